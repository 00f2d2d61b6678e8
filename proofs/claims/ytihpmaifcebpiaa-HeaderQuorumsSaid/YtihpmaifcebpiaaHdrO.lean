/-
  Contracts: which headers and certificates may be, asked by calls that make memory.
-/
import Derived.Test.YtihpmaifcebpiaaHdrN
import Derived.Test.YtihpmaifcebpiaaQui
namespace Go.Proofs.Ytihpmaifcebpiaa
open Go.RowKit


set_option maxRecDepth 100000 in
set_option maxHeartbeats 2000000 in
theorem header_May {A1 A2 : Option Addr} {n1 c1 n2 c2 : Nat} (n : Int) (x : HdD) (w : World) (hs : Sl w 1 A1 n1 (ints x.bs)) (ht : Sl w 1 A2 n2 (ints x.ps)) (hn1 : n1 ≤ 9223372036854775807) (hn2 : n2 ≤ 9223372036854775807) {r : Bool} (hr : Hid (mayH n x = r)) :
    Calls Try.prog 73 #[hdV x.a x.r A1 n1 c1 A2 n2 c2, .int .i64 n] w fun e w' => e = .returned (.bool r) ∧ Below w.heap.size w w' := by
  have HL2 := hide ht.ilen
  have s1 := hs.alloc (.cells #[.int .i64 x.a, .int .i64 x.r, .slice A1 n1 c1, .slice A2 n2 c2] 49)
  have t1 := ht.alloc (.cells #[.int .i64 x.a, .int .i64 x.r, .slice A1 n1 c1, .slice A2 n2 c2] 49)
  have hb0 := below_alloc' w (.cells #[.int .i64 x.a, .int .i64 x.r, .slice A1 n1 c1, .slice A2 n2 c2] 49)
  have kx := Blk.new w 49 #[.int .i64 x.a, .int .i64 x.r, .slice A1 n1 c1, .slice A2 n2 c2]
  have HR : Hid (r = (isC n && (formH n x && decide (x.r = 1 ∨ qC n ≤ (n2 : Int))))) := by rw [Hid, ← hr.out, mayH, HL2.out]
  obtain ⟨f, HF⟩ : ∃ p, Hid (formH n x = p) := ⟨_, rfl⟩
  have CF := fun w' (h : Below (w.heap.size + 1) (w.alloc (.cells #[.int .i64 x.a, .int .i64 x.r, .slice A1 n1 c1, .slice A2 n2 c2] 49)) w') => header_form (c1 := c1) (c2 := c2) n x w' (s1.below (by simpa using h)) (t1.below (by simpa using h)) hn1 hn2 HF
  rw [HF.out] at HR
  obtain ⟨a, ra, bs, ps⟩ := x
  unfold hdV at CF ⊢
  simp only at CF HR hb0 kx ⊢
  have HCF := hide CF
  have HB := hide hb0
  have HKX := hide kx
  clear CF hr HF hs ht s1 t1 HL2 hb0 kx
  cases hc : isC n with
  | false =>
    have CI := fun w => com_Is n w
    rw [hc] at CI HR
    have HCI := hide CI
    clear hc CI
    go_enter Try.func73, Try.ntmps73
    go_wp2_with fail
    go_quiet ((go_at_call 94; exact Calls.quiet_of_same ((HCI.out _).mono fun _ _ h => ⟨h.1, h.2.symm⟩)))
    go_wp2_with fail
    go_ret
    exact ⟨ret_bool (by rw [HR.out]; rfl), below_drewN HB.out _⟩
  | true =>
    have HCI := hide (fun w => com_Is n w)
    rw [hc] at HCI HR
    have HCQ := hide (fun w => com_Q n w hc)
    obtain ⟨q, HQ⟩ : ∃ q, Hid (qC n = q) := ⟨_, rfl⟩
    rw [HQ.out] at HCQ HR
    clear hc
    obtain ⟨w1, hw1⟩ : ∃ w1, w.alloc (.cells #[.int .i64 a, .int .i64 ra, .slice A1 n1 c1, .slice A2 n2 c2] 49) = w1 := ⟨_, rfl⟩
    have hz1 : w1.heap.size = w.heap.size + 1 := by rw [← hw1]; simp
    have HBC : Hid (∀ w', Below w1.heap.size w1 w' → Below w.heap.size w w') := fun w' h => by have h2 := HB.out; rw [hw1] at h2; exact h2.trans (h.mono (by omega))
    have hk1 := HKX.out
    rw [hw1] at hk1 HCF
    have HKX1 := hide hk1
    have HCF1 : Hid (∀ w', Below w1.heap.size w1 w' → Calls Try.prog 61 #[.agg #[.int .i64 a, .int .i64 ra, .slice A1 n1 c1, .slice A2 n2 c2], .int .i64 n] w' fun e w'' => e = .returned (.bool f) ∧ Below w'.heap.size w' w'') := fun w' h => HCF.out w' (by rw [← hz1]; exact h)
    have HW1 := hide hw1
    clear HCF HKX hk1 HB hw1
    go_enter Try.func73, Try.ntmps73
    go_wp2_with fail
    rw [HW1.out]
    clear HW1
    obtain ⟨g, hg⟩ : ∃ g, w.heap.size = g := ⟨_, rfl⟩
    rw [hg] at hz1 HKX1 ⊢
    have hbc := Below.refl w1.heap.size w1
    have f0 : ∀ n : Wd w1, n.w.cell? ⟨g, 0, none⟩ = some (.int .i64 a) := Wd.cell (HKX1.out.at_ rfl)
    have f1 : ∀ n : Wd w1, n.w.cell? ⟨g, 1, none⟩ = some (.int .i64 ra) := Wd.cell (HKX1.out.at_ rfl)
    have f2 : ∀ n : Wd w1, n.w.cell? ⟨g, 2, none⟩ = some (.slice A1 n1 c1) := Wd.cell (HKX1.out.at_ rfl)
    have f3 : ∀ n : Wd w1, n.w.cell? ⟨g, 3, none⟩ = some (.slice A2 n2 c2) := Wd.cell (HKX1.out.at_ rfl)
    cases f with
    | false =>
      refine wp_region_wd (by kernel_rfl) (by kernel_rfl) ?_
      repeat (go_big_quiet_step (first
        | (go_at_call 94; exact wd_same (HCI.out _))
        | (go_at_call 95; exact wd_same (HCQ.out _))
        | (go_at_call 61; exact wd_call (HCF1.out _ (Wd.below _)))))
      refine wpQuiet_nil (wd_end fun wq hbc => ?_)
      all_goals
        have HBB := hide hbc
        go_wp2_with fail
        go_ret
        exact ⟨ret_bool (by rw [HR.out]; rfl), HBC.out _ HBB.out⟩
    | true =>
      by_cases h1 : ra = 1
      · have hra : (ra == 1) = true := by simpa using h1
        have H1 := hide h1
        clear h1
        refine wp_region_wd (by kernel_rfl) (by kernel_rfl) ?_
        repeat (go_big_quiet_step (first
          | (go_at_call 94; exact wd_same (HCI.out _))
          | (go_at_call 95; exact wd_same (HCQ.out _))
          | (go_at_call 61; exact wd_call (HCF1.out _ (Wd.below _)))))
        refine wpQuiet_nil (wd_end fun wq hbc => ?_)
        all_goals
          have HBB := hide hbc
          go_wp2_with fail
          go_ret
          exact ⟨ret_bool (by rw [HR.out]; simp [H1.out]), HBC.out _ HBB.out⟩
      · have hra : (ra == 1) = false := by simpa using h1
        have H1 := hide h1
        clear h1
        refine wp_region_wd (by kernel_rfl) (by kernel_rfl) ?_
        repeat (go_big_quiet_step (first
          | (go_at_call 94; exact wd_same (HCI.out _))
          | (go_at_call 95; exact wd_same (HCQ.out _))
          | (go_at_call 61; exact wd_call (HCF1.out _ (Wd.below _)))))
        refine wpQuiet_nil (wd_end fun wq hbc => ?_)
        all_goals
          have HBB := hide hbc
          go_wp2_with fail
          go_ret
          exact ⟨ret_bool (by rw [HR.out]; simp [H1.out]), HBC.out _ HBB.out⟩

def ctV (a r : Int) (A1 : Option Addr) (n1 c1 : Nat) (A2 : Option Addr) (n2 c2 : Nat) (d : Int) (A3 : Option Addr) (n3 c3 : Nat) : Value := .agg #[.int .i64 a, .int .i64 r, .slice A1 n1 c1, .slice A2 n2 c2, .int .i64 d, .slice A3 n3 c3]
set_option maxRecDepth 100000 in
set_option maxHeartbeats 2000000 in
theorem header_MayCert {A1 A2 A3 : Option Addr} {n1 c1 n2 c2 n3 c3 : Nat} (n : Int) (x : CtD) (w : World) (hs : Sl w 1 A1 n1 (ints x.h.bs)) (ht : Sl w 1 A2 n2 (ints x.h.ps)) (hu : Sl w 1 A3 n3 (ints x.ss)) (hn1 : n1 ≤ 9223372036854775807) (hn2 : n2 ≤ 9223372036854775807) (hn3 : n3 ≤ 9223372036854775807)
    {r : Bool} (hr : Hid (mayC n x = r)) :
    Calls Try.prog 74 #[ctV x.h.a x.h.r A1 n1 c1 A2 n2 c2 x.d A3 n3 c3, .int .i64 n] w fun e w' => e = .returned (.bool r) ∧ Below w.heap.size w w' := by
  have HL3 := hide hu.ilen
  obtain ⟨f, HF⟩ : ∃ p, Hid (mayH n x.h = p) := ⟨_, rfl⟩
  obtain ⟨y, HY⟩ : ∃ p, Hid (digO x.d = p) := ⟨_, rfl⟩
  obtain ⟨z, HZ⟩ : ∃ p, Hid (rises 1 n x.ss = p) := ⟨_, rfl⟩
  obtain ⟨q, HQ⟩ : ∃ q, Hid (qC n = q) := ⟨_, rfl⟩
  have HR : Hid (r = (f && (y && (z && decide (q ≤ (n3 : Int)))))) := by rw [Hid, ← hr.out, mayC, HL3.out, HF.out, HY.out, HZ.out, HQ.out]
  have HISC : Hid (f = true → isC n = true) := fun h => (mayH_iff.1 (HF.out.trans h)).1
  obtain ⟨⟨a, ra, bs, ps⟩, d, ss⟩ := x
  simp only at hs ht hu HF HY HZ ⊢
  obtain ⟨w1, hw1⟩ : ∃ w1, w.alloc (.cells #[.int .i64 a, .int .i64 ra, .slice A1 n1 c1, .slice A2 n2 c2, .int .i64 d, .slice A3 n3 c3] 51) = w1 := ⟨_, rfl⟩
  have hb1 : Below w.heap.size w w1 := by rw [← hw1]; exact below_alloc' w _
  have hk1 : Blk w1 w.heap.size 51 #[.int .i64 a, .int .i64 ra, .slice A1 n1 c1, .slice A2 n2 c2, .int .i64 d, .slice A3 n3 c3] := by rw [← hw1]; exact Blk.new w _ _
  have s1 := hs.below hb1
  have s2 := ht.below hb1
  have s3 := hu.below hb1
  have HCF : Hid (∀ w', Below w1.heap.size w1 w' → Calls Try.prog 73 #[.agg #[.int .i64 a, .int .i64 ra, .slice A1 n1 c1, .slice A2 n2 c2], .int .i64 n] w' fun e w'' => e = .returned (.bool f) ∧ Below w'.heap.size w' w'') :=
    fun w' h => header_May n ⟨a, ra, bs, ps⟩ w' (s1.below h) (s2.below h) hn1 hn2 HF
  have HCR : Hid (∀ w', Below w1.heap.size w1 w' → Calls Try.prog 97 #[.slice A3 n3 c3, .int .i64 1, .int .i64 n] w' fun e w'' => e = .returned (.bool z) ∧ w' = w'') :=
    fun w' h => com_Rising 1 n w' (s3.below h) hn3 HZ
  have HCD : Hid (∀ w', Calls Try.prog 96 #[.int .i64 d] w' fun e w'' => e = .returned (.bool y) ∧ w' = w'') := fun w' => by rw [← HY.out]; exact com_Digest d w'
  have HCQ : Hid (isC n = true → ∀ w', Calls Try.prog 95 #[.int .i64 n] w' fun e w'' => e = .returned (.int .i64 q) ∧ w' = w'') := fun h w' => by rw [← HQ.out]; exact com_Q n w' h
  have HBC : Hid (∀ w', Below w1.heap.size w1 w' → Below w.heap.size w w') := fun w' h => hb1.trans (h.mono hb1.size)
  have HKX1 := hide hk1
  have HW1 := hide hw1
  clear hs ht hu s1 s2 s3 hb1 hk1 hw1 hr
  unfold ctV
  go_enter Try.func74, Try.ntmps74
  go_wp2_with fail
  rw [HW1.out]
  clear HW1
  obtain ⟨g, hg⟩ : ∃ g, w.heap.size = g := ⟨_, rfl⟩
  rw [hg] at HKX1 ⊢
  have f0 : ∀ n : Wd w1, n.w.cell? ⟨g, 0, none⟩ = some (.int .i64 a) := Wd.cell (HKX1.out.at_ rfl)
  have f1 : ∀ n : Wd w1, n.w.cell? ⟨g, 1, none⟩ = some (.int .i64 ra) := Wd.cell (HKX1.out.at_ rfl)
  have f2 : ∀ n : Wd w1, n.w.cell? ⟨g, 2, none⟩ = some (.slice A1 n1 c1) := Wd.cell (HKX1.out.at_ rfl)
  have f3 : ∀ n : Wd w1, n.w.cell? ⟨g, 3, none⟩ = some (.slice A2 n2 c2) := Wd.cell (HKX1.out.at_ rfl)
  have f4 : ∀ n : Wd w1, n.w.cell? ⟨g, 4, none⟩ = some (.int .i64 d) := Wd.cell (HKX1.out.at_ rfl)
  have f5 : ∀ n : Wd w1, n.w.cell? ⟨g, 5, none⟩ = some (.slice A3 n3 c3) := Wd.cell (HKX1.out.at_ rfl)
  clear hg
  cases f with
  | false =>
    refine wp_region_wd (by kernel_rfl) (by kernel_rfl) ?_
    repeat (go_big_quiet_step (first
      | (go_at_call 96; exact wd_same (HCD.out _))
      | (go_at_call 97; exact wd_same (HCR.out _ (Wd.below _)))
      | (go_at_call 95; exact wd_same (HCQ.out _))
      | (go_at_call 73; exact wd_call (HCF.out _ (Wd.below _)))))
    refine wpQuiet_nil (wd_end fun wq hbc => ?_)
    have HBB := hide hbc
    go_wp2_with fail
    go_ret
    exact ⟨ret_bool (by rw [HR.out]; rfl), HBC.out _ HBB.out⟩
  | true =>
    have HCQ := hide (HCQ.out (HISC.out rfl))
    cases y with
    | false =>
      refine wp_region_wd (by kernel_rfl) (by kernel_rfl) ?_
      repeat (go_big_quiet_step (first
        | (go_at_call 96; exact wd_same (HCD.out _))
        | (go_at_call 97; exact wd_same (HCR.out _ (Wd.below _)))
        | (go_at_call 95; exact wd_same (HCQ.out _))
        | (go_at_call 73; exact wd_call (HCF.out _ (Wd.below _)))))
      refine wpQuiet_nil (wd_end fun wq hbc => ?_)
      have HBB := hide hbc
      go_wp2_with fail
      go_ret
      exact ⟨ret_bool (by rw [HR.out]; rfl), HBC.out _ HBB.out⟩
    | true =>
      cases z with
      | false =>
        refine wp_region_wd (by kernel_rfl) (by kernel_rfl) ?_
        repeat (go_big_quiet_step (first
          | (go_at_call 96; exact wd_same (HCD.out _))
          | (go_at_call 97; exact wd_same (HCR.out _ (Wd.below _)))
          | (go_at_call 95; exact wd_same (HCQ.out _))
          | (go_at_call 73; exact wd_call (HCF.out _ (Wd.below _)))))
        refine wpQuiet_nil (wd_end fun wq hbc => ?_)
        have HBB := hide hbc
        go_wp2_with fail
        go_ret
        exact ⟨ret_bool (by rw [HR.out]; rfl), HBC.out _ HBB.out⟩
      | true =>
        refine wp_region_wd (by kernel_rfl) (by kernel_rfl) ?_
        repeat (go_big_quiet_step (first
          | (go_at_call 96; exact wd_same (HCD.out _))
          | (go_at_call 97; exact wd_same (HCR.out _ (Wd.below _)))
          | (go_at_call 95; exact wd_same (HCQ.out _))
          | (go_at_call 73; exact wd_call (HCF.out _ (Wd.below _)))))
        refine wpQuiet_nil (wd_end fun wq hbc => ?_)
        have HBB := hide hbc
        go_wp2_with fail
        go_ret
        exact ⟨ret_bool (by rw [HR.out]; simp), HBC.out _ HBB.out⟩
set_option maxRecDepth 100000 in
set_option maxHeartbeats 1000000 in
theorem header_Check {A1 A2 : Option Addr} {n1 c1 n2 c2 : Nat} (n : Int) (x : HdD) (w : World) (hs : Sl w 1 A1 n1 (ints x.bs)) (ht : Sl w 1 A2 n2 (ints x.ps)) (hn1 : n1 ≤ 9223372036854775807) (hn2 : n2 ≤ 9223372036854775807) {r : Bool} (hr : Hid (mayH n x = r)) :
    Calls Try.prog 42 #[hdV x.a x.r A1 n1 c1 A2 n2 c2, .int .i64 n] w fun e w' => e = .returned (.int .i64 (formE r)) ∧ Below w.heap.size w w' := by
  have hb0 := below_alloc' w (.cells #[.int .i64 x.a, .int .i64 x.r, .slice A1 n1 c1, .slice A2 n2 c2] 49)
  have HC := hide (header_May (c1 := c1) (c2 := c2) n x _ (hs.below hb0) (ht.below hb0) hn1 hn2 hr)
  have HB := hide hb0
  clear hb0 hs ht hr
  unfold hdV at HC ⊢
  go_enter Try.func42, Try.ntmps42
  go_wp2_with fail
  refine HC.out.mono ?_
  rintro e w1 ⟨rfl, hb1⟩
  have HB1 := hide (HB.out.trans (hb1.mono HB.out.size))
  clear hb1
  cases r with
  | true =>
    go_wp2_with fail
    go_ret
    exact ⟨rfl, HB1.out⟩
  | false =>
    go_wp2_with fail
    go_ret
    exact ⟨rfl, HB1.out⟩
set_option maxRecDepth 100000 in
set_option maxHeartbeats 1000000 in
theorem header_Cert {A1 A2 A3 : Option Addr} {n1 c1 n2 c2 n3 c3 : Nat} (n : Int) (x : CtD) (w : World) (hs : Sl w 1 A1 n1 (ints x.h.bs)) (ht : Sl w 1 A2 n2 (ints x.h.ps)) (hu : Sl w 1 A3 n3 (ints x.ss)) (hn1 : n1 ≤ 9223372036854775807) (hn2 : n2 ≤ 9223372036854775807) (hn3 : n3 ≤ 9223372036854775807)
    {r : Bool} (hr : Hid (mayC n x = r)) :
    Calls Try.prog 43 #[ctV x.h.a x.h.r A1 n1 c1 A2 n2 c2 x.d A3 n3 c3, .int .i64 n] w fun e w' => e = .returned (.int .i64 (formE r)) ∧ Below w.heap.size w w' := by
  have hb0 := below_alloc' w (.cells #[.int .i64 x.h.a, .int .i64 x.h.r, .slice A1 n1 c1, .slice A2 n2 c2, .int .i64 x.d, .slice A3 n3 c3] 51)
  have HC := hide (header_MayCert (c1 := c1) (c2 := c2) (c3 := c3) n x _ (hs.below hb0) (ht.below hb0) (hu.below hb0) hn1 hn2 hn3 hr)
  have HB := hide hb0
  clear hb0 hs ht hu hr
  unfold ctV at HC ⊢
  go_enter Try.func43, Try.ntmps43
  go_wp2_with fail
  refine HC.out.mono ?_
  rintro e w1 ⟨rfl, hb1⟩
  have HB1 := hide (HB.out.trans (hb1.mono HB.out.size))
  clear hb1
  cases r with
  | true =>
    go_wp2_with fail
    go_ret
    exact ⟨rfl, HB1.out⟩
  | false =>
    go_wp2_with fail
    go_ret
    exact ⟨rfl, HB1.out⟩
end Go.Proofs.Ytihpmaifcebpiaa
