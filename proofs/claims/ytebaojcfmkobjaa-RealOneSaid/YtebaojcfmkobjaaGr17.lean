/-
  Texts joined: words and contracts that later texts use; lemmas alone, no conditions of a statement.
-/
import Derived.Test.YtebaojcfmkobjaaMsgYa
import Derived.Test.YtebaojcfmkobjaaMsgYb
import Derived.Test.YtebaojcfmkobjaaMsgYc
import Derived.Test.YtebaojcfmkobjaaGr10
import Derived.Test.YtebaojcfmkobjaaGr09
import Derived.Test.YtebaojcfmkobjaaGr03
import Derived.Test.YtebaojcfmkobjaaMsgT
set_option linter.unusedVariables false
set_option linter.unusedSimpArgs false
/-
  Contracts: droverref4.Message whole.
-/
namespace Go.Proofs.Ytebaojcfmkobjaa
open Go.RowKit

end Go.Proofs.Ytebaojcfmkobjaa
/-
  Contracts of the law's helpers of layer 4: weights, what is heavy, that it wakes.
-/
namespace Go.Proofs.Ytebaojcfmkobjaa
open Go.RowKit

def twT : List TxD → Nat → Nat
  | [], n => n
  | t :: r, n => if n < 1048576 then twT r (n + (t.k.size + t.v.size)) else n
set_option maxRecDepth 100000 in
set_option maxHeartbeats 1000000 in
theorem law0_TxWeight {A : Option Addr} {n c T : Nat} {ls : List TxD} (w : World) (hs : Sl w 4 A n (txsC ls)) (hn : n ≤ 150000000000001) (hz : ∀ t ∈ ls, t.k.size ≤ 150000000000001 ∧ t.v.size ≤ 150000000000001) (ht : twT ls n = T) :
    Calls Try.prog 82 #[.slice A n c] w fun e w' => e = .returned (.int .i64 T) ∧ Below w.heap.size w w' := by
  have HL := hide hs.txlen
  have HZ := hide hz
  have HT := hide ht
  clear hz ht
  go_enter Try.func82, Try.ntmps82
  go_wp2_with fail
  go_loopw [3, 4] (fun t j wr => ∃ (k W q : Nat), k ≤ n ∧ j = .int .i64 k ∧ t = .int .i64 W ∧ W ≤ 460000000000001 ∧ Hid (twT (ls.drop k) W = T) ∧ wr = w.drewN q) (fun _ j _ => n - (intOf j).toNat)
  case atStart => exact ⟨0, n, 0, Nat.zero_le _, rfl, rfl, by omega, HT, rfl⟩
  case round =>
    obtain ⟨k, W, q, hk, rfl, rfl, hW, HW, rfl⟩ := hrel
    by_cases hlt : k < n
    · obtain ⟨b, off, t, rfl, HU, c0, c1, c2, c3, _⟩ := hs.tx hlt
      obtain ⟨z1, z2⟩ := HZ.out t (List.mem_of_getElem? HU.out)
      clear hs
      by_cases hw : W ≤ 1048575
      · obtain ⟨x, hx⟩ : ∃ x, t.k.size = x := ⟨_, rfl⟩
        obtain ⟨y, hy⟩ : ∃ y, t.v.size = y := ⟨_, rfl⟩
        have HX := hide hx
        have HY := hide hy
        obtain ⟨s, q', tk, tv⟩ := t
        simp only at c0 c1 c2 c3 z1 z2 hx hy
        rw [hx] at z1
        rw [hy] at z2
        have hd : decide ((W : Int) < 1048576) = true := by rw [decide_eq_true_eq]; omega
        have HW2 := hide hw
        have HWN : Hid (twT (ls.drop (k + 1)) (W + x + y) = T) := by
          have h1 := HW.out
          rw [drop_at HU.out, twT, if_pos (by have := HW2.out; omega)] at h1
          simp only at h1
          rw [hx, hy] at h1
          rw [Hid, Nat.add_assoc]; exact h1
        clear hw
        go_wp2_with fail
        go_quiet (fail)
        go_wp2_with fail
        go_roundw
        case rel => exact ⟨k + 1, W + x + y, q + nq, by omega, by go_num, by go_num, by have := HW2.out; omega, HWN, rfl⟩
        case measure => simp [intOf]; omega
      · have hd : decide ((W : Int) < 1048576) = false := by rw [decide_eq_false_iff_not]; omega
        have hF : W = T := by
          have h1 := HW.out
          rw [drop_at HU.out, twT, if_neg (by omega)] at h1
          exact h1
        subst hF
        clear hw
        go_wp2_with fail
        go_ret
        exact ⟨rfl, below_drewN (Below.refl _ _) q⟩
    · obtain rfl : k = n := by omega
      have hF : W = T := by
        have h1 := HW.out
        rw [List.drop_eq_nil_of_le (by rw [HL.out]; exact Nat.le_refl _)] at h1
        exact h1
      subst hF
      go_wp2_with fail
      go_ret
      exact ⟨rfl, below_drewN (Below.refl _ _) q⟩
end Go.Proofs.Ytebaojcfmkobjaa
/-
  Contracts of the law's helpers of layer 6: weights, what is heavy, that it wakes, the spoiler.
-/
namespace Go.Proofs.Ytebaojcfmkobjaa
open Go.RowKit

set_option maxHeartbeats 400000 in
theorem law0_HeaderWeight {A1 A2 : Option Addr} {n1 c1 n2 c2 : Nat} (a ra : Int) (w : World) (h1 : n1 ≤ 20000000000000) (h2 : n2 ≤ 20000000000000) :
    Calls Try.prog 83 #[hdV a ra A1 n1 c1 A2 n2 c2] w fun e w' => e = .returned (.int .i64 (1 + n1 + n2)) ∧ Below w.heap.size w w' := by
  have HB := hide (below_alloc' w (.cells #[.int .i64 a, .int .i64 ra, .slice A1 n1 c1, .slice A2 n2 c2] 38))
  unfold hdV
  go_enter Try.func83, Try.ntmps83
  go_wp2_with fail
  go_ret
  exact ⟨rfl, HB.out⟩
set_option maxRecDepth 100000 in
set_option maxHeartbeats 1000000 in
theorem law0_CertWeight {A1 A2 A3 : Option Addr} {n1 c1 n2 c2 n3 c3 : Nat} (a ra d : Int) (w : World) (h1 : n1 ≤ 20000000000000) (h2 : n2 ≤ 20000000000000) (h3 : n3 ≤ 20000000000000) :
    Calls Try.prog 84 #[ctV a ra A1 n1 c1 A2 n2 c2 d A3 n3 c3] w fun e w' => e = .returned (.int .i64 (1 + n1 + n2 + n3)) ∧ Below w.heap.size w w' := by
  obtain ⟨w1, hw1⟩ : ∃ w1, w.alloc (.cells #[.int .i64 a, .int .i64 ra, .slice A1 n1 c1, .slice A2 n2 c2, .int .i64 d, .slice A3 n3 c3] 40) = w1 := ⟨_, rfl⟩
  have hb1 : Below w.heap.size w w1 := by rw [← hw1]; exact below_alloc' w _
  have hk1 : Blk w1 w.heap.size 40 #[.int .i64 a, .int .i64 ra, .slice A1 n1 c1, .slice A2 n2 c2, .int .i64 d, .slice A3 n3 c3] := by rw [← hw1]; exact Blk.new w _ _
  have HCW : Hid (∀ w', Calls Try.prog 83 #[.agg #[.int .i64 a, .int .i64 ra, .slice A1 n1 c1, .slice A2 n2 c2]] w' fun e w'' => e = .returned (.int .i64 (1 + n1 + n2)) ∧ Below w'.heap.size w' w'') := fun w' => law0_HeaderWeight a ra w' h1 h2
  have HBC : Hid (∀ w', Below w1.heap.size w1 w' → Below w.heap.size w w') := fun w' h => hb1.trans (h.mono hb1.size)
  have HKX1 := hide hk1
  have HW1 := hide hw1
  have hwr : IntKind.i64.wrap (1 + (n1 : Int) + (n2 : Int) + (n3 : Int)) = 1 + (n1 : Int) + (n2 : Int) + (n3 : Int) := IntWalk.i64_in _ (by omega)
  clear hb1 hk1 hw1
  unfold ctV
  go_enter Try.func84, Try.ntmps84
  go_wp2_with fail
  rw [HW1.out]
  clear HW1
  obtain ⟨g, hg⟩ : ∃ g, w.heap.size = g := ⟨_, rfl⟩
  rw [hg] at HKX1 ⊢
  have f0 : ∀ n : Wd w1, n.w.cell? ⟨g, 0, none⟩ = some (.int .i64 a) := Wd.cell (HKX1.out.at_ rfl)
  have f1 : ∀ n : Wd w1, n.w.cell? ⟨g, 1, none⟩ = some (.int .i64 ra) := Wd.cell (HKX1.out.at_ rfl)
  have f2 : ∀ n : Wd w1, n.w.cell? ⟨g, 2, none⟩ = some (.slice A1 n1 c1) := Wd.cell (HKX1.out.at_ rfl)
  have f3 : ∀ n : Wd w1, n.w.cell? ⟨g, 3, none⟩ = some (.slice A2 n2 c2) := Wd.cell (HKX1.out.at_ rfl)
  have f5 : ∀ n : Wd w1, n.w.cell? ⟨g, 5, none⟩ = some (.slice A3 n3 c3) := Wd.cell (HKX1.out.at_ rfl)
  clear hg
  refine wp_region_wd (by kernel_rfl) (by kernel_rfl) ?_
  repeat (go_big_quiet_step (first
    | (go_at_call 83; exact wd_call (HCW.out _))))
  refine wpQuiet_nil (wd_end fun wq hbc => ?_)
  have HBB := hide hbc
  go_wp2_with fail
  go_ret
  exact ⟨rfl, HBC.out _ HBB.out⟩
end Go.Proofs.Ytebaojcfmkobjaa
/-
  Contracts of the law's helpers of layer 7: a message's weight, what is heavy.
-/
namespace Go.Proofs.Ytebaojcfmkobjaa
open Go.RowKit

theorem twT_le : ∀ (ls : List TxD) (n : Nat), (∀ t ∈ ls, t.k.size ≤ 150000000000001 ∧ t.v.size ≤ 150000000000001) → n ≤ 460000000000001 → twT ls n ≤ 460000000000001
  | [], n, _, h => by simpa [twT] using h
  | t :: r, n, hz, h => by
    rw [twT]
    split
    · have := hz t (by simp)
      exact twT_le r _ (fun u hu => hz u (by simp [hu])) (by omega)
    · exact h
/-- A message's weight. -/
def msW (x : MsD) (v : MsV) : Nat := twT x.b.l v.tx.n + (1 + v.hb.n + v.hp.n) + (1 + v.cb.n + v.cp.n + v.cs.n) + v.ds.n
/-- No longer than a law's argument is. -/
structure MsL (x : MsD) (v : MsV) : Prop where
  txz : ∀ t ∈ x.b.l, t.k.size ≤ 150000000000001 ∧ t.v.size ≤ 150000000000001
  tx : v.tx.n ≤ 20000000000000
  hb : v.hb.n ≤ 20000000000000
  hp : v.hp.n ≤ 20000000000000
  cb : v.cb.n ≤ 20000000000000
  cp : v.cp.n ≤ 20000000000000
  cs : v.cs.n ≤ 20000000000000
  ds : v.ds.n ≤ 20000000000000
set_option maxRecDepth 100000 in
set_option maxHeartbeats 2000000 in
theorem law0_MessageWeight (x : MsD) (v : MsV) (w : World) (HS : Hid (MsS w x v)) (HL : Hid (MsL x v)) {C : Array Value} (HC : Hid (C = msC x v)) :
    Calls Try.prog 60 #[.agg C] w fun e w' => e = .returned (.int .i64 (msW x v : Nat)) ∧ Below w.heap.size w w' := by
  obtain ⟨T, HT⟩ : ∃ T, Hid (twT x.b.l v.tx.n = T) := ⟨_, rfl⟩
  have hTB : T ≤ 460000000000001 := by rw [← HT.out]; exact twT_le _ _ HL.out.txz (by have := HL.out.tx; omega)
  obtain ⟨h1, h2, h3, h4, h5, h6, h7⟩ := And.intro HL.out.hb (And.intro HL.out.hp (And.intro HL.out.cb (And.intro HL.out.cp (And.intro HL.out.cs (And.intro HL.out.ds trivial)))))
  have HR : Hid ((msW x v : Nat) = ((T : Int) + (1 + (v.hb.n : Int) + (v.hp.n : Int)) + (1 + (v.cb.n : Int) + (v.cp.n : Int) + (v.cs.n : Int)) + (v.ds.n : Int))) := by rw [Hid, msW, HT.out]; omega
  have HCS : Hid (C.size = 18) := by rw [Hid, HC.out]; rfl
  obtain ⟨w1, hw1⟩ : ∃ w1, w.alloc (.cells C 42) = w1 := ⟨_, rfl⟩
  have hb1 : Below w.heap.size w w1 := by rw [← hw1]; exact below_alloc' w _
  have hk1 : Blk w1 w.heap.size 42 C := by rw [← hw1]; exact Blk.new w _ _
  have HX := hide (HS.out.below hb1)
  have HTW : Hid (∀ w', Below w1.heap.size w1 w' → Calls Try.prog 82 #[.slice v.tx.A v.tx.n v.tx.c] w' fun e w'' => e = .returned (.int .i64 T) ∧ Below w'.heap.size w' w'') := fun w' hb => law0_TxWeight w' (HX.out.below hb).tx (by have := HL.out.tx; omega) HL.out.txz HT.out
  have HHW : Hid (∀ w', Calls Try.prog 83 #[.agg #[.int .i64 x.h.a, .int .i64 x.h.r, .slice v.hb.A v.hb.n v.hb.c, .slice v.hp.A v.hp.n v.hp.c]] w' fun e w'' => e = .returned (.int .i64 (1 + v.hb.n + v.hp.n)) ∧ Below w'.heap.size w' w'') := fun w' => law0_HeaderWeight x.h.a x.h.r w' h1 h2
  have HCW : Hid (∀ w', Calls Try.prog 84 #[.agg #[.int .i64 x.c.h.a, .int .i64 x.c.h.r, .slice v.cb.A v.cb.n v.cb.c, .slice v.cp.A v.cp.n v.cp.c, .int .i64 x.c.d, .slice v.cs.A v.cs.n v.cs.c]] w' fun e w'' => e = .returned (.int .i64 (1 + v.cb.n + v.cp.n + v.cs.n)) ∧ Below w'.heap.size w' w'') := fun w' => law0_CertWeight x.c.h.a x.c.h.r x.c.d w' h3 h4 h5
  have HBC : Hid (∀ w', Below w1.heap.size w1 w' → Below w.heap.size w w') := fun w' h => hb1.trans (h.mono hb1.size)
  have HKX1 := hide hk1
  have HW1 := hide hw1
  have hwa : IntKind.i64.wrap ((T : Int) + (1 + (v.hb.n : Int) + (v.hp.n : Int))) = (T : Int) + (1 + (v.hb.n : Int) + (v.hp.n : Int)) := IntWalk.i64_in _ (by omega)
  have hwb : IntKind.i64.wrap ((T : Int) + (1 + (v.hb.n : Int) + (v.hp.n : Int)) + (1 + (v.cb.n : Int) + (v.cp.n : Int) + (v.cs.n : Int))) = (T : Int) + (1 + (v.hb.n : Int) + (v.hp.n : Int)) + (1 + (v.cb.n : Int) + (v.cp.n : Int) + (v.cs.n : Int)) := IntWalk.i64_in _ (by omega)
  have hwc : IntKind.i64.wrap ((T : Int) + (1 + (v.hb.n : Int) + (v.hp.n : Int)) + (1 + (v.cb.n : Int) + (v.cp.n : Int) + (v.cs.n : Int)) + (v.ds.n : Int)) = (T : Int) + (1 + (v.hb.n : Int) + (v.hp.n : Int)) + (1 + (v.cb.n : Int) + (v.cp.n : Int) + (v.cs.n : Int)) + (v.ds.n : Int) := IntWalk.i64_in _ (by omega)
  clear hb1 hk1 hw1 HS
  go_enter Try.func60, Try.ntmps60
  go_upto_region 1 with fail
  rw [HW1.out]
  clear HW1
  obtain ⟨g, hg⟩ : ∃ g, w.heap.size = g := ⟨_, rfl⟩
  rw [hg] at HKX1 ⊢
  have f4 : ∀ n : Wd w1, n.w.cell? ⟨g, 6, none⟩ = some (.slice v.tx.A v.tx.n v.tx.c) := Wd.cell (HKX1.out.at_ (by rw [HC.out]; rfl))
  have f7 : ∀ n : Wd w1, n.w.cell? ⟨g, 7, none⟩ = some (.int .i64 x.h.a) := Wd.cell (HKX1.out.at_ (by rw [HC.out]; rfl))
  have f8 : ∀ n : Wd w1, n.w.cell? ⟨g, 8, none⟩ = some (.int .i64 x.h.r) := Wd.cell (HKX1.out.at_ (by rw [HC.out]; rfl))
  have f9 : ∀ n : Wd w1, n.w.cell? ⟨g, 9, none⟩ = some (.slice v.hb.A v.hb.n v.hb.c) := Wd.cell (HKX1.out.at_ (by rw [HC.out]; rfl))
  have f10 : ∀ n : Wd w1, n.w.cell? ⟨g, 10, none⟩ = some (.slice v.hp.A v.hp.n v.hp.c) := Wd.cell (HKX1.out.at_ (by rw [HC.out]; rfl))
  have f11 : ∀ n : Wd w1, n.w.cell? ⟨g, 11, none⟩ = some (.int .i64 x.c.h.a) := Wd.cell (HKX1.out.at_ (by rw [HC.out]; rfl))
  have f12 : ∀ n : Wd w1, n.w.cell? ⟨g, 12, none⟩ = some (.int .i64 x.c.h.r) := Wd.cell (HKX1.out.at_ (by rw [HC.out]; rfl))
  have f13 : ∀ n : Wd w1, n.w.cell? ⟨g, 13, none⟩ = some (.slice v.cb.A v.cb.n v.cb.c) := Wd.cell (HKX1.out.at_ (by rw [HC.out]; rfl))
  have f14 : ∀ n : Wd w1, n.w.cell? ⟨g, 14, none⟩ = some (.slice v.cp.A v.cp.n v.cp.c) := Wd.cell (HKX1.out.at_ (by rw [HC.out]; rfl))
  have f15 : ∀ n : Wd w1, n.w.cell? ⟨g, 15, none⟩ = some (.int .i64 x.c.d) := Wd.cell (HKX1.out.at_ (by rw [HC.out]; rfl))
  have f16 : ∀ n : Wd w1, n.w.cell? ⟨g, 16, none⟩ = some (.slice v.cs.A v.cs.n v.cs.c) := Wd.cell (HKX1.out.at_ (by rw [HC.out]; rfl))
  have f17 : ∀ n : Wd w1, n.w.cell? ⟨g, 17, none⟩ = some (.slice v.ds.A v.ds.n v.ds.c) := Wd.cell (HKX1.out.at_ (by rw [HC.out]; rfl))
  clear hg
  refine wp_region_wd (by kernel_rfl) (by kernel_rfl) ?_
  repeat (go_big_quiet_step (first
    | (go_at_call 82; exact wd_call (HTW.out _ (Wd.below _)))
    | (go_at_call 83; exact wd_call (HHW.out _))
    | (go_at_call 84; exact wd_call (HCW.out _))))
  refine wpQuiet_nil (wd_end fun wq hbc => ?_)
  have HBB := hide hbc
  go_wp2_with fail
  go_ret
  exact ⟨by rw [HR.out]; rfl, HBC.out _ HBB.out⟩
set_option maxHeartbeats 1000000 in
theorem law7_Heavy (x : MsD) (v : MsV) (w : World) (HS : Hid (MsS w x v)) (HL : Hid (MsL x v)) {C : Array Value} (HC : Hid (C = msC x v)) {r : Bool} (hr : Hid (decide (2000 < msW x v) = r)) :
    Calls Try.prog 34 #[.agg C] w fun e w' => e = .returned (.bool r) ∧ Below w.heap.size w w' := by
  have HCS : Hid (C.size = 18) := by rw [Hid, HC.out]; rfl
  have HK := hide (Blk.new w 42 C)
  have HB := hide (below_alloc' w (.cells C 42))
  have HW := hide (law0_MessageWeight x v _ (hide (HS.out.below HB.out)) HL HC)
  have hd : decide ((2000 : Int) < (msW x v : Nat)) = r := by rw [← hr.out]; simp only [decide_eq_decide]; omega
  clear HS HL
  go_enter Try.func34, Try.ntmps34
  go_upto_region 1 with fail
  generalize w.alloc (.cells C 42) = w1 at HK HB HW ⊢
  refine wp_region_lit ?_
  refine frame_off 6 [(1, .pointer (some ⟨w.heap.size, 0, none⟩))] (Frm.start rfl (by intro p hp; simp only [List.mem_cons, List.not_mem_nil, or_false] at hp; subst hp; rfl)) (fun a hM => ?_)
  refine seg_cut4 (fun a' w' => Frm a' 6 [(2, .bool r)] ∧ Below w1.heap.size w1 w') (fun K2 hK2 => ?_) (fun a' w' hS => ?_)
  · refine seg_val hM rfl (by omega) rfl (v := .agg C) (w' := w1) (run_load_blk rfl w.heap.size (hM.ev (t := 1) rfl) 42 C _ HK.out Try.underlying42 rfl (by rw [HCS.out]; exact Try.infoMsg)) (fun a hM => ?_)
    refine seg_call hM rfl (by omega) rfl (f := 60) (args := #[.agg C]) (by simp only [execOp, resolve, List.map_toArray, List.map_cons, List.map_nil, hM.ev (t := 3) (v := .agg C) rfl]; simp [go_sem, Act.eval]) HW.out (fun a wd hM hbd => ?_)
    refine seg_val hM rfl (by omega) rfl (v := .bool r) (w' := wd) (by simp only [execOp, hM.ev (t := 4) (v := .int .i64 (msW x v : Nat)) rfl]; simp [go_sem, Act.eval, hd]) (fun a hM => ?_)
    refine seg_move hM rfl (by omega) rfl (.inr rfl) rfl (fun a hM => ?_)
    exact seg_nil (hK2 _ _ ⟨hM.weak (by intro p hp; simp only [List.mem_cons, List.not_mem_nil, or_false] at hp; subst hp; rfl), hbd⟩)
  · obtain ⟨hM, hbd⟩ := hS
    refine wpList_nil ?_
    simp only [Exit.then]
    go_step
    apply wp_ret
    refine bodyPost_ret (results_tmp rfl _ _ _) hM.2.1 ?_
    rw [show a'.tmps.getD 2 undef = .bool r from hM.ev (t := 2) rfl]
    exact ⟨rfl, below_then HB.out hbd⟩
end Go.Proofs.Ytebaojcfmkobjaa
