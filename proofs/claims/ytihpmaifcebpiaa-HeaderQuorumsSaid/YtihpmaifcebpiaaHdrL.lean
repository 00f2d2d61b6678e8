/-
  Contracts of the law's helpers of layer 6: weights, what is heavy, that it wakes, the spoiler.
-/
import Derived.Test.YtihpmaifcebpiaaHdrB
import Derived.Test.YtihpmaifcebpiaaHdrP
import Derived.Test.YtihpmaifcebpiaaSpo
namespace Go.Proofs.Ytihpmaifcebpiaa
open Go.RowKit

set_option maxHeartbeats 400000 in
theorem law0_HeaderWeight {A1 A2 : Option Addr} {n1 c1 n2 c2 : Nat} (a ra : Int) (w : World) (h1 : n1 ≤ 20000000000000) (h2 : n2 ≤ 20000000000000) :
    Calls Try.prog 88 #[hdV a ra A1 n1 c1 A2 n2 c2] w fun e w' => e = .returned (.int .i64 (1 + n1 + n2)) ∧ Below w.heap.size w w' := by
  have HB := hide (below_alloc' w (.cells #[.int .i64 a, .int .i64 ra, .slice A1 n1 c1, .slice A2 n2 c2] 49))
  unfold hdV
  go_enter Try.func88, Try.ntmps88
  go_wp2_with fail
  go_ret
  exact ⟨rfl, HB.out⟩
set_option maxRecDepth 100000 in
set_option maxHeartbeats 1000000 in
theorem law0_CertWeight {A1 A2 A3 : Option Addr} {n1 c1 n2 c2 n3 c3 : Nat} (a ra d : Int) (w : World) (h1 : n1 ≤ 20000000000000) (h2 : n2 ≤ 20000000000000) (h3 : n3 ≤ 20000000000000) :
    Calls Try.prog 60 #[ctV a ra A1 n1 c1 A2 n2 c2 d A3 n3 c3] w fun e w' => e = .returned (.int .i64 (1 + n1 + n2 + n3)) ∧ Below w.heap.size w w' := by
  obtain ⟨w1, hw1⟩ : ∃ w1, w.alloc (.cells #[.int .i64 a, .int .i64 ra, .slice A1 n1 c1, .slice A2 n2 c2, .int .i64 d, .slice A3 n3 c3] 51) = w1 := ⟨_, rfl⟩
  have hb1 : Below w.heap.size w w1 := by rw [← hw1]; exact below_alloc' w _
  have hk1 : Blk w1 w.heap.size 51 #[.int .i64 a, .int .i64 ra, .slice A1 n1 c1, .slice A2 n2 c2, .int .i64 d, .slice A3 n3 c3] := by rw [← hw1]; exact Blk.new w _ _
  have HCW : Hid (∀ w', Calls Try.prog 88 #[.agg #[.int .i64 a, .int .i64 ra, .slice A1 n1 c1, .slice A2 n2 c2]] w' fun e w'' => e = .returned (.int .i64 (1 + n1 + n2)) ∧ Below w'.heap.size w' w'') := fun w' => law0_HeaderWeight a ra w' h1 h2
  have HBC : Hid (∀ w', Below w1.heap.size w1 w' → Below w.heap.size w w') := fun w' h => hb1.trans (h.mono hb1.size)
  have HKX1 := hide hk1
  have HW1 := hide hw1
  have hwr : IntKind.i64.wrap (1 + (n1 : Int) + (n2 : Int) + (n3 : Int)) = 1 + (n1 : Int) + (n2 : Int) + (n3 : Int) := IntWalk.i64_in _ (by omega)
  clear hb1 hk1 hw1
  unfold ctV
  go_enter Try.func60, Try.ntmps60
  go_wp2_with fail
  rw [HW1.out]
  clear HW1
  obtain ⟨g, hg⟩ : ∃ g, w.heap.size = g := ⟨_, rfl⟩
  rw [hg] at HKX1 ⊢
  have f0 : ∀ n : Wd w1, n.w.cell? ⟨g, 0, none⟩ = some (.int .i64 a) := Wd.cell (HKX1.out.at_ rfl)
  have f1 : ∀ n : Wd w1, n.w.cell? ⟨g, 1, none⟩ = some (.int .i64 ra) := Wd.cell (HKX1.out.at_ rfl)
  have f2 : ∀ n : Wd w1, n.w.cell? ⟨g, 2, none⟩ = some (.slice A1 n1 c1) := Wd.cell (HKX1.out.at_ rfl)
  have f3 : ∀ n : Wd w1, n.w.cell? ⟨g, 3, none⟩ = some (.slice A2 n2 c2) := Wd.cell (HKX1.out.at_ rfl)
  have f5 : ∀ n : Wd w1, n.w.cell? ⟨g, 5, none⟩ = some (.slice A3 n3 c3) := Wd.cell (HKX1.out.at_ rfl)
  clear hg
  refine wp_region_wd (by kernel_rfl) (by kernel_rfl) ?_
  repeat (go_big_quiet_step (first
    | (go_at_call 88; exact wd_call (HCW.out _))))
  refine wpQuiet_nil (wd_end fun wq hbc => ?_)
  have HBB := hide hbc
  go_wp2_with fail
  go_ret
  exact ⟨rfl, HBC.out _ HBB.out⟩
set_option maxHeartbeats 400000 in
theorem law6_num (n : Int) (w : World) : Calls Try.prog 30 #[.int .i64 n] w fun e w' => e = .returned (.int .i64 n) ∧ w = w' := by
  go_enter Try.func30, Try.ntmps30
  go_wp2_with fail
  go_ret
  exact ⟨rfl, rfl⟩
/-- Is it more than is played? -/
def heavy6 (n1 n2 n3 nX : Nat) : Bool := decide (500 < 1 + n1 + n2 + n3) || decide (5000 < nX)
theorem heavy6_false {n1 n2 n3 nX : Nat} (h : heavy6 n1 n2 n3 nX = false) : 1 + n1 + n2 + n3 ≤ 500 ∧ nX ≤ 5000 := by
  simp [heavy6] at h; omega
set_option maxRecDepth 100000 in
set_option maxHeartbeats 1000000 in
theorem law6_heavy {A1 A2 A3 A4 : Option Addr} {n1 c1 n2 c2 n3 c3 n4 c4 : Nat} (a ra d N : Int) (w : World) (h1 : n1 ≤ 20000000000000) (h2 : n2 ≤ 20000000000000) (h3 : n3 ≤ 20000000000000) (h4 : n4 ≤ 9223372036854775807) :
    Calls Try.prog 27 #[.agg #[.int .i64 a, .int .i64 ra, .slice A1 n1 c1, .slice A2 n2 c2, .int .i64 d, .slice A3 n3 c3, .int .i64 N, .slice A4 n4 c4]] w fun e w' => e = .returned (.bool (heavy6 n1 n2 n3 n4)) ∧ Below w.heap.size w w' := by
  have hk := (Blk.new w 53 #[.int .i64 a, .int .i64 ra, .slice A1 n1 c1, .slice A2 n2 c2, .int .i64 d, .slice A3 n3 c3, .int .i64 N, .slice A4 n4 c4])
  have HB := hide (below_alloc' w (.cells #[.int .i64 a, .int .i64 ra, .slice A1 n1 c1, .slice A2 n2 c2, .int .i64 d, .slice A3 n3 c3, .int .i64 N, .slice A4 n4 c4] 53))
  have HC := hide (fun w => law0_CertWeight (A1 := A1) (A2 := A2) (A3 := A3) (c1 := c1) (c2 := c2) (c3 := c3) a ra d w h1 h2 h3)
  unfold ctV at HC
  go_enter Try.func27, Try.ntmps27
  go_wp2_with fail
  refine (HC.out _).mono ?_
  rintro e w1 ⟨rfl, hb1⟩
  have c7 : w1.cell? ⟨w.heap.size, 7, none⟩ = some (.slice A4 n4 c4) := (hk.later hb1).at_ rfl
  have HB1 := hide (HB.out.trans (hb1.mono HB.out.size))
  clear hb1 hk
  by_cases g : 500 < 1 + n1 + n2 + n3
  · have hq : heavy6 n1 n2 n3 n4 = true := by simp [heavy6, g]
    have hd : decide ((500 : Int) < 1 + (n1 : Int) + (n2 : Int) + (n3 : Int)) = true := by rw [decide_eq_true_eq]; omega
    have HQ := hide hq
    clear hq g
    go_wp2_with fail
    go_ret
    exact ⟨ret_bool HQ.out.symm, HB1.out⟩
  · have hd : decide ((500 : Int) < 1 + (n1 : Int) + (n2 : Int) + (n3 : Int)) = false := by rw [decide_eq_false_iff_not]; omega
    have hq : heavy6 n1 n2 n3 n4 = decide ((5000 : Int) < (n4 : Int)) := by simp [heavy6, g]; omega
    have HQ := hide hq
    clear hq g
    go_wp2_with fail
    go_ret
    exact ⟨ret_bool HQ.out.symm, HB1.out⟩
theorem wake_form : formH 16 ⟨1, 1, [], []⟩ = true := by decide
set_option maxRecDepth 100000 in
set_option maxHeartbeats 1000000 in
theorem law6_wakes (w : World) : Calls Try.prog 32 #[] w fun e w' => e = .returned (.bool true) ∧ Below w.heap.size w w' := by
  obtain ⟨L, HL⟩ : ∃ L, Hid ((headerB ⟨1, 1, [], []⟩).length = L) := ⟨_, rfl⟩
  have HP := hide (parseH_there wake_form)
  have HC := hide (fun w => header_Bytes_yes (A1 := none) (A2 := none) (n1 := 0) (n2 := 0) (c1 := 0) (c2 := 0) ⟨1, 1, [], []⟩ w Sl.nil_ Sl.nil_ wake_form)
  unfold hdV at HC
  go_enter Try.func32, Try.ntmps32
  go_wp2_with fail
  refine (HC.out _).mono ?_
  rintro e w1 ⟨v1, rfl, hown1, hb1⟩
  rw [HL.out] at hown1
  obtain ⟨A1, c1, rfl, hc1, hc1m⟩ := own_slice_cap hown1
  unfold maxLen at hc1m
  have s1 := Sl.of_own hown1
  clear hown1 HC
  go_wp2_with fail
  refine (header_Parse _ s1 hc1 hc1m HP).mono ?_
  rintro e w2 ⟨v2, v3, rfl, o2, o3, _, hb3⟩
  obtain ⟨A2, c2, rfl⟩ := own_slice o2
  obtain ⟨A3, c3, rfl⟩ := own_slice o3
  have hb4 := below_then hb1 hb3
  clear s1 o2 o3 hb3 hb1
  go_wp2_with fail
  refine (law6_num _ _).mono ?_
  rintro e w' ⟨rfl, rfl⟩
  go_wp2_with fail
  refine (law6_num _ _).mono ?_
  rintro e w' ⟨rfl, rfl⟩
  go_wp2_with fail
  go_ret
  exact ⟨rfl, hb4.alloc hb4.size _⟩
/-- Law 6's argument: at each place a certificate, a number, bytes. -/
def Asks6 (w : World) (A : Option Addr) (n : Nat) : Prop :=
  n ≤ 9223372036854775807 ∧ (0 < n → ∃ b off, A = some ⟨b, off, none⟩ ∧ ∀ k, k < n → ∃ (x : CtD) (A1 : Option Addr) (n1 c1 : Nat) (A2 : Option Addr) (n2 c2 : Nat) (A3 : Option Addr) (n3 c3 : Nat) (N : Int) (A4 : Option Addr) (n4 c4 : Nat) (bs : List UInt8),
    w.cell? ⟨b, off + k * 8, none⟩ = some (.int .i64 x.h.a) ∧ w.cell? ⟨b, off + k * 8 + 1, none⟩ = some (.int .i64 x.h.r) ∧ w.cell? ⟨b, off + k * 8 + 2, none⟩ = some (.slice A1 n1 c1) ∧ w.cell? ⟨b, off + k * 8 + 3, none⟩ = some (.slice A2 n2 c2) ∧
    w.cell? ⟨b, off + k * 8 + 4, none⟩ = some (.int .i64 x.d) ∧ w.cell? ⟨b, off + k * 8 + 5, none⟩ = some (.slice A3 n3 c3) ∧ w.cell? ⟨b, off + k * 8 + 6, none⟩ = some (.int .i64 N) ∧ w.cell? ⟨b, off + k * 8 + 7, none⟩ = some (.slice A4 n4 c4) ∧
    (Sl w 1 A1 n1 (ints x.h.bs) ∧ n1 ≤ 20000000000000) ∧ (Sl w 1 A2 n2 (ints x.h.ps) ∧ n2 ≤ 20000000000000) ∧ (Sl w 1 A3 n3 (ints x.ss) ∧ n3 ≤ 20000000000000) ∧ (Sl w 1 A4 n4 (bytes8 bs) ∧ n4 ≤ 150000000000001 ∧ n4 ≤ c4 ∧ c4 ≤ 9223372036854775807))
set_option maxRecDepth 100000 in
set_option maxHeartbeats 1000000 in
theorem law0_Numbers2 {v : Value} {n base : Nat} {xs : List Int} (w : World) (h : w.ownsRow base 3 1 v n (ints xs)) (hbase : base ≤ w.heap.size) (hn : n ≤ 1099511627776) :
    Calls Try.prog 68 #[v] w fun e w' => e = .returned (.tuple #[]) ∧ w.grownBy w' v.ownBlock := by
  obtain ⟨i0, hi, hz0, hz1, hz2⟩ := info_parts Try.infoInt
  obtain ⟨A, c, rfl⟩ := own_slice h
  go_enter Try.func68, Try.ntmps68
  go_wp2_with fail
  go_loopw [2] (fun i wr => ∃ (k : Nat) (ys : List Int), k ≤ n ∧ i = .int .i64 k ∧ wr.ownsRow base 3 1 (.slice A n c) n (ints ys) ∧ w.grownBy wr (Value.slice A n c).ownBlock) (fun i _ => n - (intOf i).toNat)
  case atStart => exact ⟨0, xs, Nat.zero_le _, rfl, h, grown_refl _ _⟩
  case round =>
    obtain ⟨k, ys, hk, rfl, hown, hb⟩ := hrel
    have hsz := hb.size
    by_cases hlt : k < n
    · have hl := hown.1
      rw [ints_len] at hl
      obtain ⟨g, cap, hv, hgb, hgl⟩ := hown.form (by omega)
      injection hv with hA _ hc
      subst hA
      subst hc
      have hc0 : wr.cell? ⟨g, k, none⟩ = some (.int .i64 (ys[k]'(by omega))) := by rw [hown.cellAt k (by omega)]; simp only [ints, List.getElem?_map, List.getElem?_eq_getElem (show k < ys.length by omega)]; rfl
      have hf0 := hown.frozenAt k
      have hst := hide (fun u => hown.stored k u)
      have HB : Hid (∀ u, w.grownBy (wr.setCell ⟨g, k, none⟩ u) (Value.slice (some ⟨g, 0, none⟩) n c).ownBlock) := fun u => grown_trans hb (grown_set wr g k u)
      clear hown hb
      go_wp2_with fail
      go_roundw
      case rel =>
        refine ⟨k + 1, ys.set k (-99), by omega, by go_num, ?_, HB.out _⟩
        have h9 := hst.out (.int .i64 (-99))
        rw [show ints (ys.set k (-99)) = (ints ys).set k (.int .i64 (-99)) by simp [ints, List.map_set]]
        exact h9.1
      case measure => simp [intOf]; omega
    · obtain rfl : k = n := by omega
      go_wp2_with (at_builtin; refine wpList_append_own _ rfl _ _ 47 rfl base 3 i0 (.int .i64 0) 1 8 Try.underlying47 hi hz0 hz1 hz2 rfl (by decide) _ _ _ rfl (hown.alloc _) ⟨wr.heap.size, 0, none⟩ 1 1 [.int .i64 5] rfl rfl (news_one _ _ _) (one_int64 _) (by unfold maxLen; omega) (by omega) (by simp; omega) ?_)
      intro v3 w3 _ hg3 _
      have hb4 := grown_trans (grown_trans hb (World.grownBy_alloc wr _ _)) hg3
      clear hg3 hown hb
      go_wp2_with fail
      go_end0
      exact ⟨rfl, hb4⟩
set_option maxRecDepth 100000 in
set_option maxHeartbeats 1000000 in
theorem law0_Header {v1 v2 : Value} {n1 n2 base : Nat} {xs ys : List Int} (a ra : Int) (w : World) (h1 : w.ownsRow base 3 1 v1 n1 (ints xs)) (h2 : w.ownsRow base 3 1 v2 n2 (ints ys)) (hne : v1.ownBlock = none ∨ v1.ownBlock ≠ v2.ownBlock) (hbase : base ≤ w.heap.size) (hn1 : n1 ≤ 1099511627776) (hn2 : n2 ≤ 1099511627776) :
    Calls Try.prog 36 #[.agg #[.int .i64 a, .int .i64 ra, v1, v2]] w fun e w' => e = .returned (.tuple #[]) ∧ Below base w w' := by
  obtain ⟨A1, c1, rfl⟩ := own_slice h1
  obtain ⟨A2, c2, rfl⟩ := own_slice h2
  have hk := Blk.new w 49 #[.int .i64 a, .int .i64 ra, .slice A1 n1 c1, .slice A2 n2 c2]
  have hb0 : Below base w (w.alloc (.cells #[.int .i64 a, .int .i64 ra, .slice A1 n1 c1, .slice A2 n2 c2] 49)) := (Below.refl _ _).alloc hbase _
  have o1 := h1.alloc (.cells #[.int .i64 a, .int .i64 ra, .slice A1 n1 c1, .slice A2 n2 c2] 49)
  have o2 := h2.alloc (.cells #[.int .i64 a, .int .i64 ra, .slice A1 n1 c1, .slice A2 n2 c2] 49)
  go_enter Try.func36, Try.ntmps36
  go_wp2_with fail
  generalize w.alloc (.cells #[.int .i64 a, .int .i64 ra, .slice A1 n1 c1, .slice A2 n2 c2] 49) = w1 at hk hb0 o1 o2 ⊢
  have hz1 := hb0.size
  refine (law0_Numbers2 _ o1 (by omega) hn1).mono ?_
  rintro e w2 ⟨rfl, hg2⟩
  have hk2 := hk.grown hg2 (Ne.symm (own_blk_ne o1 hk (by decide)))
  have hb2 : Below base w w2 := hb0.grown hg2 (by omega) (fun g hg => (o1.lt g hg).1)
  have hne' : (Value.slice A2 n2 c2).ownBlock = none ∨ (Value.slice A2 n2 c2).ownBlock ≠ (Value.slice A1 n1 c1).ownBlock := by
    rcases h2 : (Value.slice A2 n2 c2).ownBlock with _ | g
    · exact Or.inl rfl
    · rcases hne with h | h
      · rw [h]; exact Or.inr (by simp)
      · rw [h2] at h; exact Or.inr (Ne.symm h)
  have o2' := o2.kept hg2 hne'
  have c3 : w2.cell? ⟨w.heap.size, 3, none⟩ = some (.slice A2 n2 c2) := hk2.at_ rfl
  clear hk hb0 o1 o2 hg2 hk2 hne hne'
  go_wp2_with fail
  refine (law0_Numbers2 _ o2' (by have := hb2.size; omega) hn2).mono ?_
  rintro e w3 ⟨rfl, hg3⟩
  have hb3 : Below base w w3 := hb2.grown hg3 (by have := hb2.size; omega) (fun g hg => (o2'.lt g hg).1)
  clear o2' hg3 hb2 c3
  go_wp2_with fail
  go_end0
  exact ⟨rfl, hb3⟩
end Go.Proofs.Ytihpmaifcebpiaa
