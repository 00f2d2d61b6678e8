/-
  Contracts: headers and certificates: the reference's; compared, copied.
-/
import Derived.Test.YtebaojcfmkobjaaGr10
import Derived.Test.YtebaojcfmkobjaaGr03
set_option linter.unusedVariables false
set_option linter.unusedSimpArgs false
namespace Go.Proofs.Ytebaojcfmkobjaa
open Go.RowKit

set_option maxRecDepth 100000 in
set_option maxHeartbeats 2000000 in
theorem ref4_Cert {A1 A2 A3 : Option Addr} {n1 c1 n2 c2 n3 c3 : Nat} (n : Int) (x : CtD) (w : World) (hs : Sl w 1 A1 n1 (ints x.h.bs)) (ht : Sl w 1 A2 n2 (ints x.h.ps)) (hu : Sl w 1 A3 n3 (ints x.ss)) (hn1 : n1 ≤ 9223372036854775807) (hn2 : n2 ≤ 9223372036854775807) (hn3 : n3 ≤ 9223372036854775807)
    {r : Bool} (hr : Hid (mayC n x = r)) :
    Calls Try.prog 54 #[ctV x.h.a x.h.r A1 n1 c1 A2 n2 c2 x.d A3 n3 c3, .int .i64 n] w fun e w' => e = .returned (.bool r) ∧ Below w.heap.size w w' := by
  have HL3 := hide hu.ilen
  obtain ⟨f, HF⟩ : ∃ p, Hid (mayH n x.h = p) := ⟨_, rfl⟩
  obtain ⟨y, HY⟩ : ∃ p, Hid (digO x.d = p) := ⟨_, rfl⟩
  obtain ⟨z, HZ⟩ : ∃ p, Hid (betw 1 n x.ss = p) := ⟨_, rfl⟩
  obtain ⟨s, HS⟩ : ∃ p, Hid (sortedI x.ss = p) := ⟨_, rfl⟩
  obtain ⟨q, HQ⟩ : ∃ q, Hid (qC n = q) := ⟨_, rfl⟩
  have HR : Hid (r = (f && (y && ((z && s) && decide (q ≤ (n3 : Int)))))) := by rw [Hid, ← hr.out, mayC, HL3.out, HF.out, HY.out, rises, HZ.out, HS.out, HQ.out]
  have HISC : Hid (f = true → isC n = true) := fun h => (mayH_iff.1 (HF.out.trans h)).1
  obtain ⟨⟨a, ra, bs, ps⟩, d, ss⟩ := x
  simp only at hs ht hu HF HY HZ HS ⊢
  obtain ⟨w1, hw1⟩ : ∃ w1, w.alloc (.cells #[.int .i64 a, .int .i64 ra, .slice A1 n1 c1, .slice A2 n2 c2, .int .i64 d, .slice A3 n3 c3] 40) = w1 := ⟨_, rfl⟩
  have hb1 : Below w.heap.size w w1 := by rw [← hw1]; exact below_alloc' w _
  have hk1 : Blk w1 w.heap.size 40 #[.int .i64 a, .int .i64 ra, .slice A1 n1 c1, .slice A2 n2 c2, .int .i64 d, .slice A3 n3 c3] := by rw [← hw1]; exact Blk.new w _ _
  have s1 := hs.below hb1
  have s2 := ht.below hb1
  have s3 := hu.below hb1
  have HCF : Hid (∀ w', Below w1.heap.size w1 w' → Calls Try.prog 53 #[.agg #[.int .i64 a, .int .i64 ra, .slice A1 n1 c1, .slice A2 n2 c2], .int .i64 n] w' fun e w'' => e = .returned (.bool f) ∧ Below w'.heap.size w' w'') :=
    fun w' h => ref4_Header n ⟨a, ra, bs, ps⟩ w' (s1.below h) (s2.below h) hn1 hn2 HF
  have HCR : Hid (∀ w', Below w1.heap.size w1 w' → Calls Try.prog 47 #[.slice A3 n3 c3, .int .i64 1, .int .i64 n] w' fun e w'' => e = .returned (.bool z) ∧ w' = w'') :=
    fun w' h => ref0_Between 1 n w' (s3.below h) hn3 HZ
  have HCS : Hid (∀ w', Below w1.heap.size w1 w' → Calls Try.prog 79 #[.slice A3 n3 c3] w' fun e w'' => e = .returned (.bool s) ∧ ∃ q, w'' = w'.drewN q) :=
    fun w' h => ref0_Rising w' (s3.below h) hn3 HS
  have HCD : Hid (∀ w', Calls Try.prog 52 #[.int .i64 d] w' fun e w'' => e = .returned (.bool y) ∧ w' = w'') := fun w' => by rw [← HY.out]; exact ref0_Digest d w'
  have HCQ : Hid (isC n = true → ∀ w', Calls Try.prog 78 #[.int .i64 n] w' fun e w'' => e = .returned (.int .i64 q) ∧ w' = w'') := fun h w' => by rw [← HQ.out]; exact ref2_Quorum n w' (isC_iff.1 h).1 (isC_iff.1 h).2.1
  have HBC : Hid (∀ w', Below w1.heap.size w1 w' → Below w.heap.size w w') := fun w' h => hb1.trans (h.mono hb1.size)
  have HKX1 := hide hk1
  have HW1 := hide hw1
  clear hs ht hu s1 s2 s3 hb1 hk1 hw1 hr
  unfold ctV
  go_enter Try.func54, Try.ntmps54
  go_wp2_with fail
  rw [HW1.out]
  clear HW1
  obtain ⟨g, hg⟩ : ∃ g, w.heap.size = g := ⟨_, rfl⟩
  rw [hg] at HKX1 ⊢
  have f0 : ∀ n : Wd w1, n.w.cell? ⟨g, 0, none⟩ = some (.int .i64 a) := Wd.cell (HKX1.out.at_ rfl)
  have f1 : ∀ n : Wd w1, n.w.cell? ⟨g, 1, none⟩ = some (.int .i64 ra) := Wd.cell (HKX1.out.at_ rfl)
  have f2 : ∀ n : Wd w1, n.w.cell? ⟨g, 2, none⟩ = some (.slice A1 n1 c1) := Wd.cell (HKX1.out.at_ rfl)
  have f3 : ∀ n : Wd w1, n.w.cell? ⟨g, 3, none⟩ = some (.slice A2 n2 c2) := Wd.cell (HKX1.out.at_ rfl)
  have f4 : ∀ n : Wd w1, n.w.cell? ⟨g, 4, none⟩ = some (.int .i64 d) := Wd.cell (HKX1.out.at_ rfl)
  have f5 : ∀ n : Wd w1, n.w.cell? ⟨g, 5, none⟩ = some (.slice A3 n3 c3) := Wd.cell (HKX1.out.at_ rfl)
  clear hg
  cases f with
  | false =>
    refine wp_region_wd (by kernel_rfl) (by kernel_rfl) ?_
    repeat (go_big_quiet_step (first
      | (go_at_call 52; exact wd_same (HCD.out _))
      | (go_at_call 79; exact wd_drawn (HCS.out _ (Wd.below _)))
      | (go_at_call 47; exact wd_same (HCR.out _ (Wd.below _)))
      | (go_at_call 78; exact wd_same (HCQ.out _))
      | (go_at_call 53; exact wd_call (HCF.out _ (Wd.below _)))))
    refine wpQuiet_nil (wd_end fun wq hbc => ?_)
    have HBB := hide hbc
    go_wp2_with fail
    go_ret
    exact ⟨ret_bool (by rw [HR.out]; simp), HBC.out _ HBB.out⟩
  | true =>
    have HCQ := hide (HCQ.out (HISC.out rfl))
    cases y with
    | false =>
      refine wp_region_wd (by kernel_rfl) (by kernel_rfl) ?_
      repeat (go_big_quiet_step (first
        | (go_at_call 52; exact wd_same (HCD.out _))
        | (go_at_call 79; exact wd_drawn (HCS.out _ (Wd.below _)))
        | (go_at_call 47; exact wd_same (HCR.out _ (Wd.below _)))
        | (go_at_call 78; exact wd_same (HCQ.out _))
        | (go_at_call 53; exact wd_call (HCF.out _ (Wd.below _)))))
      refine wpQuiet_nil (wd_end fun wq hbc => ?_)
      have HBB := hide hbc
      go_wp2_with fail
      go_ret
      exact ⟨ret_bool (by rw [HR.out]; simp), HBC.out _ HBB.out⟩
    | true =>
      cases s with
      | false =>
        refine wp_region_wd (by kernel_rfl) (by kernel_rfl) ?_
        repeat (go_big_quiet_step (first
          | (go_at_call 52; exact wd_same (HCD.out _))
          | (go_at_call 79; exact wd_drawn (HCS.out _ (Wd.below _)))
          | (go_at_call 47; exact wd_same (HCR.out _ (Wd.below _)))
          | (go_at_call 78; exact wd_same (HCQ.out _))
          | (go_at_call 53; exact wd_call (HCF.out _ (Wd.below _)))))
        refine wpQuiet_nil (wd_end fun wq hbc => ?_)
        have HBB := hide hbc
        go_wp2_with fail
        go_ret
        exact ⟨ret_bool (by rw [HR.out]; simp), HBC.out _ HBB.out⟩
      | true =>
        cases z with
        | false =>
          refine wp_region_wd (by kernel_rfl) (by kernel_rfl) ?_
          repeat (go_big_quiet_step (first
            | (go_at_call 52; exact wd_same (HCD.out _))
            | (go_at_call 79; exact wd_drawn (HCS.out _ (Wd.below _)))
            | (go_at_call 47; exact wd_same (HCR.out _ (Wd.below _)))
            | (go_at_call 78; exact wd_same (HCQ.out _))
            | (go_at_call 53; exact wd_call (HCF.out _ (Wd.below _)))))
          refine wpQuiet_nil (wd_end fun wq hbc => ?_)
          have HBB := hide hbc
          go_wp2_with fail
          go_ret
          exact ⟨ret_bool (by rw [HR.out]; simp), HBC.out _ HBB.out⟩
        | true =>
          refine wp_region_wd (by kernel_rfl) (by kernel_rfl) ?_
          repeat (go_big_quiet_step (first
            | (go_at_call 52; exact wd_same (HCD.out _))
            | (go_at_call 79; exact wd_drawn (HCS.out _ (Wd.below _)))
            | (go_at_call 47; exact wd_same (HCR.out _ (Wd.below _)))
            | (go_at_call 78; exact wd_same (HCQ.out _))
            | (go_at_call 53; exact wd_call (HCF.out _ (Wd.below _)))))
          refine wpQuiet_nil (wd_end fun wq hbc => ?_)
          have HBB := hide hbc
          go_wp2_with fail
          go_ret
          exact ⟨ret_bool (by rw [HR.out]; simp), HBC.out _ HBB.out⟩

theorem HdD.ne1 {a a' r r' : Int} {b b' p p' : List Int} (h : ¬ (a = a' ∧ r = r' ∧ b = b' ∧ p = p')) : decide ((⟨a, r, b, p⟩ : HdD) = ⟨a', r', b', p'⟩) = false := by
  rw [decide_eq_false_iff_not]; intro e; injection e with e1 e2 e3 e4; exact h ⟨e1, e2, e3, e4⟩
set_option maxRecDepth 100000 in
set_option maxHeartbeats 2000000 in
theorem ref0_EqHeader {A1 A2 B1 B2 : Option Addr} {n1 c1 n2 c2 m1 d1 m2 d2 : Nat} (x y : HdD) (w : World) (hs : Sl w 1 A1 n1 (ints x.bs)) (ht : Sl w 1 A2 n2 (ints x.ps)) (hs' : Sl w 1 B1 m1 (ints y.bs)) (ht' : Sl w 1 B2 m2 (ints y.ps))
    (hn1 : n1 ≤ 9223372036854775807) (hn2 : n2 ≤ 9223372036854775807) (hm1 : m1 ≤ 9223372036854775807) (hm2 : m2 ≤ 9223372036854775807) {r : Bool} (hr : Hid (decide (x = y) = r)) :
    Calls Try.prog 49 #[hdV x.a x.r A1 n1 c1 A2 n2 c2, hdV y.a y.r B1 m1 d1 B2 m2 d2] w fun e w' => e = .returned (.bool r) ∧ Below w.heap.size w w' := by
  obtain ⟨a, ra, bs, ps⟩ := x
  obtain ⟨a', ra', bs', ps'⟩ := y
  simp only at hs ht hs' ht' ⊢
  have HB : Hid (Below w.heap.size w ((w.alloc (.cells #[.int .i64 a, .int .i64 ra, .slice A1 n1 c1, .slice A2 n2 c2] 38)).alloc (.cells #[.int .i64 a', .int .i64 ra', .slice B1 m1 d1, .slice B2 m2 d2] 38))) := (below_alloc' w _).alloc (by simp) _
  have C1 := hide (ref0_EqNumbers A1 B1 n1 c1 m1 d1 bs bs' _ (hs.below HB.out) hn1 (hs'.below HB.out) hm1)
  have C2 : Hid (∀ k, _) := fun k => ref0_EqNumbers A2 B2 n2 c2 m2 d2 ps ps' _ ((ht.below HB.out).drewN k) hn2 ((ht'.below HB.out).drewN k) hm2
  have HE : Hid (¬ (a = a' ∧ ra = ra' ∧ bs = bs' ∧ ps = ps') → r = false) := fun h => hr.out.symm.trans (HdD.ne1 h)
  have HT : Hid (a = a' ∧ ra = ra' ∧ bs = bs' ∧ ps = ps' → r = true) := fun ⟨h1, h2, h3, h4⟩ => by rw [← hr.out]; subst h1; subst h2; subst h3; subst h4; simp
  clear hs ht hs' ht' hr
  unfold hdV
  by_cases h1 : a = a'
  · by_cases h2 : ra = ra'
    · have g1 : (a == a') = true := by simpa using h1
      have g2 : (ra == ra') = true := by simpa using h2
      by_cases h3 : bs = bs'
      · have e3 : decide (bs = bs') = true := by simpa using h3
        rw [e3] at C1
        by_cases h4 : ps = ps'
        · have e4 : decide (ps = ps') = true := by simpa using h4
          rw [e4] at C2
          have HR := hide (HT.out ⟨h1, h2, h3, h4⟩)
          clear h1 h2 h3 h4 e3 e4
          go_enter Try.func49, Try.ntmps49
          go_wp2_with fail
          refine C1.out.mono ?_
          rintro e w' ⟨rfl, q1, rfl⟩
          go_wp2_with fail
          refine (C2.out _).mono ?_
          rintro e w' ⟨rfl, q2, rfl⟩
          go_wp2_with fail
          go_ret
          exact ⟨ret_bool HR.out.symm, below_drewN HB.out _⟩
        · have e4 : decide (ps = ps') = false := by simpa using h4
          rw [e4] at C2
          have HR := hide (HE.out (fun h => h4 h.2.2.2))
          clear h1 h2 h3 h4 e3 e4
          go_enter Try.func49, Try.ntmps49
          go_wp2_with fail
          refine C1.out.mono ?_
          rintro e w' ⟨rfl, q1, rfl⟩
          go_wp2_with fail
          refine (C2.out _).mono ?_
          rintro e w' ⟨rfl, q2, rfl⟩
          go_wp2_with fail
          go_ret
          exact ⟨ret_bool HR.out.symm, below_drewN HB.out _⟩
      · have e3 : decide (bs = bs') = false := by simpa using h3
        rw [e3] at C1
        have HR := hide (HE.out (fun h => h3 h.2.2.1))
        clear h1 h2 h3 e3 C2
        go_enter Try.func49, Try.ntmps49
        go_wp2_with fail
        refine C1.out.mono ?_
        rintro e w' ⟨rfl, q1, rfl⟩
        go_wp2_with fail
        go_ret
        exact ⟨ret_bool HR.out.symm, below_drewN HB.out _⟩
    · have g1 : (a == a') = true := by simpa using h1
      have g2 : (ra == ra') = false := by simpa using h2
      have HR := hide (HE.out (fun h => h2 h.2.1))
      clear h1 h2 C1 C2
      go_enter Try.func49, Try.ntmps49
      go_wp2_with fail
      go_ret
      exact ⟨ret_bool HR.out.symm, HB.out⟩
  · have g1 : (a == a') = false := by simpa using h1
    have HR := hide (HE.out (fun h => h1 h.1))
    clear h1 C1 C2
    go_enter Try.func49, Try.ntmps49
    go_wp2_with fail
    go_ret
    exact ⟨ret_bool HR.out.symm, HB.out⟩
set_option maxRecDepth 100000 in
set_option maxHeartbeats 2000000 in
theorem ref0_EqCert {A1 A2 A3 B1 B2 B3 : Option Addr} {n1 c1 n2 c2 n3 c3 m1 d1 m2 d2 m3 d3 : Nat} (x y : CtD) (w : World) (hs : Sl w 1 A1 n1 (ints x.h.bs)) (ht : Sl w 1 A2 n2 (ints x.h.ps)) (hu : Sl w 1 A3 n3 (ints x.ss)) (hs' : Sl w 1 B1 m1 (ints y.h.bs)) (ht' : Sl w 1 B2 m2 (ints y.h.ps)) (hu' : Sl w 1 B3 m3 (ints y.ss))
    (hn1 : n1 ≤ 9223372036854775807) (hn2 : n2 ≤ 9223372036854775807) (hn3 : n3 ≤ 9223372036854775807) (hm1 : m1 ≤ 9223372036854775807) (hm2 : m2 ≤ 9223372036854775807) (hm3 : m3 ≤ 9223372036854775807) {r : Bool} (hr : Hid (decide (x = y) = r)) :
    Calls Try.prog 50 #[ctV x.h.a x.h.r A1 n1 c1 A2 n2 c2 x.d A3 n3 c3, ctV y.h.a y.h.r B1 m1 d1 B2 m2 d2 y.d B3 m3 d3] w fun e w' => e = .returned (.bool r) ∧ Below w.heap.size w w' := by
  obtain ⟨p, HP⟩ : ∃ p, Hid (decide (x.h = y.h) = p) := ⟨_, rfl⟩
  obtain ⟨q, HQ⟩ : ∃ p, Hid (decide (x.ss = y.ss) = p) := ⟨_, rfl⟩
  have HR : Hid (r = (p && (x.d == y.d && q))) := by
    rw [Hid, ← hr.out, ← HP.out, ← HQ.out, Bool.eq_iff_iff]
    obtain ⟨h, d, s⟩ := x
    obtain ⟨h', d', s'⟩ := y
    simp
  obtain ⟨⟨a, ra, bs, ps⟩, d, ss⟩ := x
  obtain ⟨⟨a', ra', bs', ps'⟩, d', ss'⟩ := y
  simp only at hs ht hu hs' ht' hu' HR HP HQ ⊢
  have kx := (Blk.new w 40 #[.int .i64 a, .int .i64 ra, .slice A1 n1 c1, .slice A2 n2 c2, .int .i64 d, .slice A3 n3 c3]).alloc (.cells #[.int .i64 a', .int .i64 ra', .slice B1 m1 d1, .slice B2 m2 d2, .int .i64 d', .slice B3 m3 d3] 40)
  have ky := Blk.new2 w (.cells #[.int .i64 a, .int .i64 ra, .slice A1 n1 c1, .slice A2 n2 c2, .int .i64 d, .slice A3 n3 c3] 40) 40 #[.int .i64 a', .int .i64 ra', .slice B1 m1 d1, .slice B2 m2 d2, .int .i64 d', .slice B3 m3 d3]
  have hb : Below w.heap.size w ((w.alloc (.cells #[.int .i64 a, .int .i64 ra, .slice A1 n1 c1, .slice A2 n2 c2, .int .i64 d, .slice A3 n3 c3] 40)).alloc (.cells #[.int .i64 a', .int .i64 ra', .slice B1 m1 d1, .slice B2 m2 d2, .int .i64 d', .slice B3 m3 d3] 40)) := (below_alloc' w _).alloc (by simp) _
  have s1 := hs.below hb
  have s2 := ht.below hb
  have s3 := hu.below hb
  have t1 := hs'.below hb
  have t2 := ht'.below hb
  have t3 := hu'.below hb
  have HC := hide (ref0_EqHeader (c1 := c1) (c2 := c2) (d1 := d1) (d2 := d2) ⟨a, ra, bs, ps⟩ ⟨a', ra', bs', ps'⟩ _ s1 s2 t1 t2 hn1 hn2 hm1 hm2 HP)
  clear hs ht hu hs' ht' hu' hr HP s1 s2 t1 t2
  unfold ctV
  unfold hdV at HC
  go_enter Try.func50, Try.ntmps50
  go_wp2_with fail
  refine HC.out.mono ?_
  rintro e w1 ⟨rfl, hb1⟩
  have x4 : w1.cell? ⟨w.heap.size, 4, none⟩ = some (.int .i64 d) := (kx.later hb1).at_ rfl
  have x5 : w1.cell? ⟨w.heap.size, 5, none⟩ = some (.slice A3 n3 c3) := (kx.later hb1).at_ rfl
  have y4 : w1.cell? ⟨w.heap.size + 1, 4, none⟩ = some (.int .i64 d') := (ky.later hb1).at_ rfl
  have y5 : w1.cell? ⟨w.heap.size + 1, 5, none⟩ = some (.slice B3 m3 d3) := (ky.later hb1).at_ rfl
  have HB1 := hide (hb.trans (hb1.mono hb.size))
  have HC2 := hide (ref0_EqNumbers A3 B3 n3 c3 m3 d3 ss ss' _ (s3.below hb1) hn3 (t3.below hb1) hm3)
  rw [HQ.out] at HC2
  clear hb1 kx ky hb HC s3 t3
  cases p with
  | false =>
    go_wp2_with fail
    go_ret
    exact ⟨ret_bool (by rw [HR.out]; rfl), HB1.out⟩
  | true =>
    by_cases h1 : d = d'
    · have g1 : (d == d') = true := by simpa using h1
      rw [g1] at HR
      clear h1
      go_wp2_with fail
      refine HC2.out.mono ?_
      rintro e w' ⟨rfl, q2, rfl⟩
      go_wp2_with fail
      go_ret
      exact ⟨ret_bool (by rw [HR.out]; simp), below_drewN HB1.out _⟩
    · have g1 : (d == d') = false := by simpa using h1
      rw [g1] at HR
      clear h1
      go_wp2_with fail
      go_ret
      exact ⟨ret_bool (by rw [HR.out]; simp), HB1.out⟩
set_option maxRecDepth 100000 in
set_option maxHeartbeats 2000000 in
theorem ref0_CopyHeader {A1 A2 : Option Addr} {n1 c1 n2 c2 : Nat} (a ra : Int) (bs ps : List Int) (w : World) (hs : Sl w 1 A1 n1 (ints bs)) (ht : Sl w 1 A2 n2 (ints ps)) (hn1 : n1 ≤ 1000000000000) (hn2 : n2 ≤ 1000000000000) :
    Calls Try.prog 36 #[hdV a ra A1 n1 c1 A2 n2 c2] w fun e w' => ∃ v1 v2, e = .returned (.agg #[.int .i64 a, .int .i64 ra, v1, v2]) ∧ w'.ownsRow w.heap.size 3 1 v1 n1 (ints bs) ∧ w'.ownsRow w.heap.size 3 1 v2 n2 (ints ps) ∧ Below w.heap.size w w' := by
  have HS := hide hs
  have HT := hide ht
  clear hs ht
  unfold hdV
  have ka := ((Blk.new w 38 #[.int .i64 a, .int .i64 ra, .slice A1 n1 c1, .slice A2 n2 c2]).alloc (.cells #[.int .i64 0, .int .i64 0, .slice none 0 0, .slice none 0 0] 38)).alloc (.cells #[.int .i64 a, .int .i64 ra, .slice A1 n1 c1, .slice A2 n2 c2] 38)
  have kr := ((Blk.new2 w (.cells #[.int .i64 a, .int .i64 ra, .slice A1 n1 c1, .slice A2 n2 c2] 38) 38 #[.int .i64 0, .int .i64 0, .slice none 0 0, .slice none 0 0])).alloc (.cells #[.int .i64 a, .int .i64 ra, .slice A1 n1 c1, .slice A2 n2 c2] 38)
  have kx := Blk.new2 (w.alloc (.cells #[.int .i64 a, .int .i64 ra, .slice A1 n1 c1, .slice A2 n2 c2] 38)) (.cells #[.int .i64 0, .int .i64 0, .slice none 0 0, .slice none 0 0] 38) 38 #[.int .i64 a, .int .i64 ra, .slice A1 n1 c1, .slice A2 n2 c2]
  rw [show (w.alloc (.cells #[.int .i64 a, .int .i64 ra, .slice A1 n1 c1, .slice A2 n2 c2] 38)).heap.size = w.heap.size + 1 by simp] at kx
  have hb : Below w.heap.size w (((w.alloc (.cells #[.int .i64 a, .int .i64 ra, .slice A1 n1 c1, .slice A2 n2 c2] 38)).alloc (.cells #[.int .i64 0, .int .i64 0, .slice none 0 0, .slice none 0 0] 38)).alloc (.cells #[.int .i64 a, .int .i64 ra, .slice A1 n1 c1, .slice A2 n2 c2] 38)) := ((below_alloc' w _).alloc (by simp) _).alloc (by simp; omega) _
  go_enter Try.func36, Try.ntmps36
  go_wp2_with fail
  generalize ((w.alloc (.cells #[.int .i64 a, .int .i64 ra, .slice A1 n1 c1, .slice A2 n2 c2] 38)).alloc (.cells #[.int .i64 0, .int .i64 0, .slice none 0 0, .slice none 0 0] 38)).alloc (.cells #[.int .i64 a, .int .i64 ra, .slice A1 n1 c1, .slice A2 n2 c2] 38) = w1 at ka kr kx hb ⊢
  refine (ref0_CopyNumbers A1 n1 c1 bs _ (HS.out.below hb) (by omega) (by omega)).mono ?_
  rintro e w2 ⟨v1, rfl, op, hb2⟩
  have hz1 := kx.lt
  have ka1 := ka.later hb2
  have kr1 := kr.later hb2
  have kx1 := kx.later hb2
  have hbn1 := hb.trans (hb2.mono (by omega))
  clear ka kr kx hb hb2 
  obtain ⟨Ap, Cp, rfl⟩ := own_slice op
  have nep := own_blk_ne op kx1 (by decide)
  have nrp := own_blk_ne op kr1 (by decide)
  have x0 : w2.cell? ⟨w.heap.size + 1 + 1, 0, none⟩ = some (.int .i64 a) := kx1.at_ rfl
  have x1 : w2.cell? ⟨w.heap.size + 1 + 1, 1, none⟩ = some (.int .i64 ra) := kx1.at_ rfl
  have x2 : w2.cell? ⟨w.heap.size + 1 + 1, 2, none⟩ = some (.slice A1 n1 c1) := kx1.at_ rfl
  have x3 : w2.cell? ⟨w.heap.size + 1 + 1, 3, none⟩ = some (.slice A2 n2 c2) := kx1.at_ rfl
  have a0 : w2.cell? ⟨w.heap.size, 0, none⟩ = some (.int .i64 a) := ka1.at_ rfl
  have a1 : w2.cell? ⟨w.heap.size, 1, none⟩ = some (.int .i64 ra) := ka1.at_ rfl
  have a2 : w2.cell? ⟨w.heap.size, 2, none⟩ = some (.slice A1 n1 c1) := ka1.at_ rfl
  have a3 : w2.cell? ⟨w.heap.size, 3, none⟩ = some (.slice A2 n2 c2) := ka1.at_ rfl
  have fx2 := kx1.frozen 2
  have KX := (kx1.set_ 2 (.slice Ap n1 Cp))
  have KR := (kr1.far (p := ⟨w.heap.size + 1 + 1, 2, none⟩) (by simp) (.slice Ap n1 Cp))
  have KA := (ka1.far (p := ⟨w.heap.size + 1 + 1, 2, none⟩) (by simp; try omega) (.slice Ap n1 Cp))
  have HB := (hbn1.setCell (p := ⟨w.heap.size + 1 + 1, 2, none⟩) (by simp; try omega) (.slice Ap n1 Cp))
  have OWp := (op.kept (grown_set w2 (w.heap.size + 1 + 1) 2 (.slice Ap n1 Cp)) (Or.inr nep))
  have KK := hide (And.intro KX (And.intro KR (And.intro KA HB)))
  have HOp := hide OWp
  clear KX KR KA HB ka1 kr1 kx1 hbn1 op  OWp 
  go_wp2_with fail
  obtain ⟨kx, kr, ka, hb⟩ := KK.out
  have op := HOp.out
  clear KK HOp x0 a0 x1 a1 x2 a2 x3 a3 fx2
  generalize w2.setCell ⟨w.heap.size + 1 + 1, 2, none⟩ (.slice Ap n1 Cp) = w3 at kx kr ka hb op ⊢
  refine (ref0_CopyNumbers A2 n2 c2 ps _ (HT.out.below hb) (by omega) (by omega)).mono ?_
  rintro e w4 ⟨v2, rfl, oq, hb4⟩
  have hz3 := kx.lt
  have ka3 := ka.later hb4
  have kr3 := kr.later hb4
  have kx3 := kx.later hb4
  have hbn3 := hb.trans (hb4.mono (by omega))
  have p3 := own_later op hb4
  clear ka kr kx hb hb4 op
  obtain ⟨Aq, Cq, rfl⟩ := own_slice oq
  have neq := own_blk_ne oq kx3 (by decide)
  have nrq := own_blk_ne oq kr3 (by decide)
  have x0 : w4.cell? ⟨w.heap.size + 1 + 1, 0, none⟩ = some (.int .i64 a) := kx3.at_ rfl
  have x1 : w4.cell? ⟨w.heap.size + 1 + 1, 1, none⟩ = some (.int .i64 ra) := kx3.at_ rfl
  have x2 : w4.cell? ⟨w.heap.size + 1 + 1, 2, none⟩ = some (.slice Ap n1 Cp) := kx3.at_ rfl
  have x3 : w4.cell? ⟨w.heap.size + 1 + 1, 3, none⟩ = some (.slice A2 n2 c2) := kx3.at_ rfl
  have a0 : w4.cell? ⟨w.heap.size, 0, none⟩ = some (.int .i64 a) := ka3.at_ rfl
  have a1 : w4.cell? ⟨w.heap.size, 1, none⟩ = some (.int .i64 ra) := ka3.at_ rfl
  have a2 : w4.cell? ⟨w.heap.size, 2, none⟩ = some (.slice A1 n1 c1) := ka3.at_ rfl
  have a3 : w4.cell? ⟨w.heap.size, 3, none⟩ = some (.slice A2 n2 c2) := ka3.at_ rfl
  have fx3 := kx3.frozen 3
  have r0 : w4.cell? ⟨w.heap.size + 1, 0, none⟩ = some (.int .i64 0) := kr3.at_ rfl
  have g0 := kr3.frozen 0
  have r1 : w4.cell? ⟨w.heap.size + 1, 1, none⟩ = some (.int .i64 0) := kr3.at_ rfl
  have g1 := kr3.frozen 1
  have r2 : w4.cell? ⟨w.heap.size + 1, 2, none⟩ = some (.slice none 0 0) := kr3.at_ rfl
  have g2 := kr3.frozen 2
  have r3 : w4.cell? ⟨w.heap.size + 1, 3, none⟩ = some (.slice none 0 0) := kr3.at_ rfl
  have g3 := kr3.frozen 3
  go_wp2_with fail
  have KRF : Blk (((((w4.setCell ⟨w.heap.size + 1 + 1, 3, none⟩ (.slice Aq n2 Cq)).setCell ⟨w.heap.size + 1, 0, none⟩ (.int .i64 a)).setCell ⟨w.heap.size + 1, 1, none⟩ (.int .i64 ra)).setCell ⟨w.heap.size + 1, 2, none⟩ (.slice Ap n1 Cp)).setCell ⟨w.heap.size + 1, 3, none⟩ (.slice Aq n2 Cq)) (w.heap.size + 1) 38 #[.int .i64 a, .int .i64 ra, .slice Ap n1 Cp, .slice Aq n2 Cq] := (((((kr3.far (p := ⟨w.heap.size + 1 + 1, 3, none⟩) (by simp) (.slice Aq n2 Cq)).set_ 0 (.int .i64 a)).set_ 1 (.int .i64 ra)).set_ 2 (.slice Ap n1 Cp)).set_ 3 (.slice Aq n2 Cq))
  have OWp := (((((p3.kept (grown_set w4 (w.heap.size + 1 + 1) 3 (.slice Aq n2 Cq)) (Or.inr nep)).kept (grown_set (w4.setCell ⟨w.heap.size + 1 + 1, 3, none⟩ (.slice Aq n2 Cq)) (w.heap.size + 1) 0 (.int .i64 a)) (Or.inr nrp)).kept (grown_set ((w4.setCell ⟨w.heap.size + 1 + 1, 3, none⟩ (.slice Aq n2 Cq)).setCell ⟨w.heap.size + 1, 0, none⟩ (.int .i64 a)) (w.heap.size + 1) 1 (.int .i64 ra)) (Or.inr nrp)).kept (grown_set (((w4.setCell ⟨w.heap.size + 1 + 1, 3, none⟩ (.slice Aq n2 Cq)).setCell ⟨w.heap.size + 1, 0, none⟩ (.int .i64 a)).setCell ⟨w.heap.size + 1, 1, none⟩ (.int .i64 ra)) (w.heap.size + 1) 2 (.slice Ap n1 Cp)) (Or.inr nrp)).kept (grown_set ((((w4.setCell ⟨w.heap.size + 1 + 1, 3, none⟩ (.slice Aq n2 Cq)).setCell ⟨w.heap.size + 1, 0, none⟩ (.int .i64 a)).setCell ⟨w.heap.size + 1, 1, none⟩ (.int .i64 ra)).setCell ⟨w.heap.size + 1, 2, none⟩ (.slice Ap n1 Cp)) (w.heap.size + 1) 3 (.slice Aq n2 Cq)) (Or.inr nrp))
  have OWq := (((((oq.kept (grown_set w4 (w.heap.size + 1 + 1) 3 (.slice Aq n2 Cq)) (Or.inr neq)).kept (grown_set (w4.setCell ⟨w.heap.size + 1 + 1, 3, none⟩ (.slice Aq n2 Cq)) (w.heap.size + 1) 0 (.int .i64 a)) (Or.inr nrq)).kept (grown_set ((w4.setCell ⟨w.heap.size + 1 + 1, 3, none⟩ (.slice Aq n2 Cq)).setCell ⟨w.heap.size + 1, 0, none⟩ (.int .i64 a)) (w.heap.size + 1) 1 (.int .i64 ra)) (Or.inr nrq)).kept (grown_set (((w4.setCell ⟨w.heap.size + 1 + 1, 3, none⟩ (.slice Aq n2 Cq)).setCell ⟨w.heap.size + 1, 0, none⟩ (.int .i64 a)).setCell ⟨w.heap.size + 1, 1, none⟩ (.int .i64 ra)) (w.heap.size + 1) 2 (.slice Ap n1 Cp)) (Or.inr nrq)).kept (grown_set ((((w4.setCell ⟨w.heap.size + 1 + 1, 3, none⟩ (.slice Aq n2 Cq)).setCell ⟨w.heap.size + 1, 0, none⟩ (.int .i64 a)).setCell ⟨w.heap.size + 1, 1, none⟩ (.int .i64 ra)).setCell ⟨w.heap.size + 1, 2, none⟩ (.slice Ap n1 Cp)) (w.heap.size + 1) 3 (.slice Aq n2 Cq)) (Or.inr nrq))
  have HBF := (((((hbn3.setCell (p := ⟨w.heap.size + 1 + 1, 3, none⟩) (by simp; try omega) (.slice Aq n2 Cq)).setCell (p := ⟨w.heap.size + 1, 0, none⟩) (by simp; try omega) (.int .i64 a)).setCell (p := ⟨w.heap.size + 1, 1, none⟩) (by simp; try omega) (.int .i64 ra)).setCell (p := ⟨w.heap.size + 1, 2, none⟩) (by simp; try omega) (.slice Ap n1 Cp)).setCell (p := ⟨w.heap.size + 1, 3, none⟩) (by simp; try omega) (.slice Aq n2 Cq))
  clear ka3 kr3 kx3 hbn3 p3 oq x0 a0 r0 g0 x1 a1 r1 g1 x2 a2 r2 g2 x3 a3 r3 g3 fx3 nep nrp neq nrq 
  generalize ((((w4.setCell ⟨w.heap.size + 1 + 1, 3, none⟩ (.slice Aq n2 Cq)).setCell ⟨w.heap.size + 1, 0, none⟩ (.int .i64 a)).setCell ⟨w.heap.size + 1, 1, none⟩ (.int .i64 ra)).setCell ⟨w.heap.size + 1, 2, none⟩ (.slice Ap n1 Cp)).setCell ⟨w.heap.size + 1, 3, none⟩ (.slice Aq n2 Cq) = wf at KRF OWp OWq HBF ⊢
  have r0 : wf.cell? ⟨w.heap.size + 1, 0, none⟩ = some (.int .i64 a) := KRF.at_ rfl
  have r1 : wf.cell? ⟨w.heap.size + 1, 1, none⟩ = some (.int .i64 ra) := KRF.at_ rfl
  have r2 : wf.cell? ⟨w.heap.size + 1, 2, none⟩ = some (.slice Ap n1 Cp) := KRF.at_ rfl
  have r3 : wf.cell? ⟨w.heap.size + 1, 3, none⟩ = some (.slice Aq n2 Cq) := KRF.at_ rfl
  exact bodyPost_ret (v := .agg #[.int .i64 a, .int .i64 ra, .slice Ap n1 Cp, .slice Aq n2 Cq]) (by simp [results, Try.results36, go_sem, r0, r1, r2, r3]) rfl ⟨_, _, rfl, own_mono OWp (by omega), own_mono OWq (by omega), HBF⟩
set_option maxRecDepth 100000 in
set_option maxHeartbeats 2000000 in
theorem ref0_CopyCert {A1 A2 A3 : Option Addr} {n1 c1 n2 c2 n3 c3 : Nat} (a ra d : Int) (bs ps ss : List Int) (w : World) (hs : Sl w 1 A1 n1 (ints bs)) (ht : Sl w 1 A2 n2 (ints ps)) (hu : Sl w 1 A3 n3 (ints ss)) (hn1 : n1 ≤ 1000000000000) (hn2 : n2 ≤ 1000000000000) (hn3 : n3 ≤ 1000000000000) :
    Calls Try.prog 37 #[ctV a ra A1 n1 c1 A2 n2 c2 d A3 n3 c3] w fun e w' => ∃ v1 v2 v3, e = .returned (.agg #[.int .i64 a, .int .i64 ra, v1, v2, .int .i64 d, v3]) ∧ w'.ownsRow w.heap.size 3 1 v1 n1 (ints bs) ∧ w'.ownsRow w.heap.size 3 1 v2 n2 (ints ps) ∧ w'.ownsRow w.heap.size 3 1 v3 n3 (ints ss) ∧ Below w.heap.size w w' := by
  have HS := hide hs
  have HT := hide ht
  have HU := hide hu
  clear hs ht hu
  unfold ctV
  have ka := ((Blk.new w 40 #[.int .i64 a, .int .i64 ra, .slice A1 n1 c1, .slice A2 n2 c2, .int .i64 d, .slice A3 n3 c3]).alloc (.cells #[.int .i64 0, .int .i64 0, .slice none 0 0, .slice none 0 0, .int .i64 0, .slice none 0 0] 40)).alloc (.cells #[.int .i64 a, .int .i64 ra, .slice A1 n1 c1, .slice A2 n2 c2, .int .i64 d, .slice A3 n3 c3] 40)
  have kr := ((Blk.new2 w (.cells #[.int .i64 a, .int .i64 ra, .slice A1 n1 c1, .slice A2 n2 c2, .int .i64 d, .slice A3 n3 c3] 40) 40 #[.int .i64 0, .int .i64 0, .slice none 0 0, .slice none 0 0, .int .i64 0, .slice none 0 0])).alloc (.cells #[.int .i64 a, .int .i64 ra, .slice A1 n1 c1, .slice A2 n2 c2, .int .i64 d, .slice A3 n3 c3] 40)
  have kx := Blk.new2 (w.alloc (.cells #[.int .i64 a, .int .i64 ra, .slice A1 n1 c1, .slice A2 n2 c2, .int .i64 d, .slice A3 n3 c3] 40)) (.cells #[.int .i64 0, .int .i64 0, .slice none 0 0, .slice none 0 0, .int .i64 0, .slice none 0 0] 40) 40 #[.int .i64 a, .int .i64 ra, .slice A1 n1 c1, .slice A2 n2 c2, .int .i64 d, .slice A3 n3 c3]
  rw [show (w.alloc (.cells #[.int .i64 a, .int .i64 ra, .slice A1 n1 c1, .slice A2 n2 c2, .int .i64 d, .slice A3 n3 c3] 40)).heap.size = w.heap.size + 1 by simp] at kx
  have hb : Below w.heap.size w (((w.alloc (.cells #[.int .i64 a, .int .i64 ra, .slice A1 n1 c1, .slice A2 n2 c2, .int .i64 d, .slice A3 n3 c3] 40)).alloc (.cells #[.int .i64 0, .int .i64 0, .slice none 0 0, .slice none 0 0, .int .i64 0, .slice none 0 0] 40)).alloc (.cells #[.int .i64 a, .int .i64 ra, .slice A1 n1 c1, .slice A2 n2 c2, .int .i64 d, .slice A3 n3 c3] 40)) := ((below_alloc' w _).alloc (by simp) _).alloc (by simp; omega) _
  go_enter Try.func37, Try.ntmps37
  go_wp2_with fail
  generalize ((w.alloc (.cells #[.int .i64 a, .int .i64 ra, .slice A1 n1 c1, .slice A2 n2 c2, .int .i64 d, .slice A3 n3 c3] 40)).alloc (.cells #[.int .i64 0, .int .i64 0, .slice none 0 0, .slice none 0 0, .int .i64 0, .slice none 0 0] 40)).alloc (.cells #[.int .i64 a, .int .i64 ra, .slice A1 n1 c1, .slice A2 n2 c2, .int .i64 d, .slice A3 n3 c3] 40) = w1 at ka kr kx hb ⊢
  refine (ref0_CopyHeader (c1 := c1) (c2 := c2) a ra bs ps _ (HS.out.below hb) (HT.out.below hb) hn1 hn2).mono ?_
  rintro e w2 ⟨v1, v2, rfl, op, oq, hb2⟩
  have hz1 := kx.lt
  have ka1 := ka.later hb2
  have kr1 := kr.later hb2
  have kx1 := kx.later hb2
  have hbn1 := hb.trans (hb2.mono (by omega))
  clear ka kr kx hb hb2 
  obtain ⟨Ap, Cp, rfl⟩ := own_slice op
  obtain ⟨Aq, Cq, rfl⟩ := own_slice oq
  have nep := own_blk_ne op kx1 (by decide)
  have nrp := own_blk_ne op kr1 (by decide)
  have neq := own_blk_ne oq kx1 (by decide)
  have nrq := own_blk_ne oq kr1 (by decide)
  have x0 : w2.cell? ⟨w.heap.size + 1 + 1, 0, none⟩ = some (.int .i64 a) := kx1.at_ rfl
  have x1 : w2.cell? ⟨w.heap.size + 1 + 1, 1, none⟩ = some (.int .i64 ra) := kx1.at_ rfl
  have x2 : w2.cell? ⟨w.heap.size + 1 + 1, 2, none⟩ = some (.slice A1 n1 c1) := kx1.at_ rfl
  have x3 : w2.cell? ⟨w.heap.size + 1 + 1, 3, none⟩ = some (.slice A2 n2 c2) := kx1.at_ rfl
  have x4 : w2.cell? ⟨w.heap.size + 1 + 1, 4, none⟩ = some (.int .i64 d) := kx1.at_ rfl
  have x5 : w2.cell? ⟨w.heap.size + 1 + 1, 5, none⟩ = some (.slice A3 n3 c3) := kx1.at_ rfl
  have a0 : w2.cell? ⟨w.heap.size, 0, none⟩ = some (.int .i64 a) := ka1.at_ rfl
  have a1 : w2.cell? ⟨w.heap.size, 1, none⟩ = some (.int .i64 ra) := ka1.at_ rfl
  have a2 : w2.cell? ⟨w.heap.size, 2, none⟩ = some (.slice A1 n1 c1) := ka1.at_ rfl
  have a3 : w2.cell? ⟨w.heap.size, 3, none⟩ = some (.slice A2 n2 c2) := ka1.at_ rfl
  have a4 : w2.cell? ⟨w.heap.size, 4, none⟩ = some (.int .i64 d) := ka1.at_ rfl
  have a5 : w2.cell? ⟨w.heap.size, 5, none⟩ = some (.slice A3 n3 c3) := ka1.at_ rfl
  have fx0 := kx1.frozen 0
  have fx1 := kx1.frozen 1
  have fx2 := kx1.frozen 2
  have fx3 := kx1.frozen 3
  have KX := ((((kx1.set_ 0 (.int .i64 a)).set_ 1 (.int .i64 ra)).set_ 2 (.slice Ap n1 Cp)).set_ 3 (.slice Aq n2 Cq))
  have KR := ((((kr1.far (p := ⟨w.heap.size + 1 + 1, 0, none⟩) (by simp) (.int .i64 a)).far (p := ⟨w.heap.size + 1 + 1, 1, none⟩) (by simp) (.int .i64 ra)).far (p := ⟨w.heap.size + 1 + 1, 2, none⟩) (by simp) (.slice Ap n1 Cp)).far (p := ⟨w.heap.size + 1 + 1, 3, none⟩) (by simp) (.slice Aq n2 Cq))
  have KA := ((((ka1.far (p := ⟨w.heap.size + 1 + 1, 0, none⟩) (by simp; try omega) (.int .i64 a)).far (p := ⟨w.heap.size + 1 + 1, 1, none⟩) (by simp; try omega) (.int .i64 ra)).far (p := ⟨w.heap.size + 1 + 1, 2, none⟩) (by simp; try omega) (.slice Ap n1 Cp)).far (p := ⟨w.heap.size + 1 + 1, 3, none⟩) (by simp; try omega) (.slice Aq n2 Cq))
  have HB := ((((hbn1.setCell (p := ⟨w.heap.size + 1 + 1, 0, none⟩) (by simp; try omega) (.int .i64 a)).setCell (p := ⟨w.heap.size + 1 + 1, 1, none⟩) (by simp; try omega) (.int .i64 ra)).setCell (p := ⟨w.heap.size + 1 + 1, 2, none⟩) (by simp; try omega) (.slice Ap n1 Cp)).setCell (p := ⟨w.heap.size + 1 + 1, 3, none⟩) (by simp; try omega) (.slice Aq n2 Cq))
  have OWp := ((((op.kept (grown_set w2 (w.heap.size + 1 + 1) 0 (.int .i64 a)) (Or.inr nep)).kept (grown_set (w2.setCell ⟨w.heap.size + 1 + 1, 0, none⟩ (.int .i64 a)) (w.heap.size + 1 + 1) 1 (.int .i64 ra)) (Or.inr nep)).kept (grown_set ((w2.setCell ⟨w.heap.size + 1 + 1, 0, none⟩ (.int .i64 a)).setCell ⟨w.heap.size + 1 + 1, 1, none⟩ (.int .i64 ra)) (w.heap.size + 1 + 1) 2 (.slice Ap n1 Cp)) (Or.inr nep)).kept (grown_set (((w2.setCell ⟨w.heap.size + 1 + 1, 0, none⟩ (.int .i64 a)).setCell ⟨w.heap.size + 1 + 1, 1, none⟩ (.int .i64 ra)).setCell ⟨w.heap.size + 1 + 1, 2, none⟩ (.slice Ap n1 Cp)) (w.heap.size + 1 + 1) 3 (.slice Aq n2 Cq)) (Or.inr nep))
  have OWq := ((((oq.kept (grown_set w2 (w.heap.size + 1 + 1) 0 (.int .i64 a)) (Or.inr neq)).kept (grown_set (w2.setCell ⟨w.heap.size + 1 + 1, 0, none⟩ (.int .i64 a)) (w.heap.size + 1 + 1) 1 (.int .i64 ra)) (Or.inr neq)).kept (grown_set ((w2.setCell ⟨w.heap.size + 1 + 1, 0, none⟩ (.int .i64 a)).setCell ⟨w.heap.size + 1 + 1, 1, none⟩ (.int .i64 ra)) (w.heap.size + 1 + 1) 2 (.slice Ap n1 Cp)) (Or.inr neq)).kept (grown_set (((w2.setCell ⟨w.heap.size + 1 + 1, 0, none⟩ (.int .i64 a)).setCell ⟨w.heap.size + 1 + 1, 1, none⟩ (.int .i64 ra)).setCell ⟨w.heap.size + 1 + 1, 2, none⟩ (.slice Ap n1 Cp)) (w.heap.size + 1 + 1) 3 (.slice Aq n2 Cq)) (Or.inr neq))
  have KK := hide (And.intro KX (And.intro KR (And.intro KA HB)))
  have HOp := hide OWp
  have HOq := hide OWq
  clear KX KR KA HB ka1 kr1 kx1 hbn1 op oq  OWp OWq 
  go_wp2_with fail
  obtain ⟨kx, kr, ka, hb⟩ := KK.out
  have op := HOp.out
  have oq := HOq.out
  clear KK HOp HOq x0 a0 x1 a1 x2 a2 x3 a3 x4 a4 x5 a5 fx0 fx1 fx2 fx3
  generalize (((w2.setCell ⟨w.heap.size + 1 + 1, 0, none⟩ (.int .i64 a)).setCell ⟨w.heap.size + 1 + 1, 1, none⟩ (.int .i64 ra)).setCell ⟨w.heap.size + 1 + 1, 2, none⟩ (.slice Ap n1 Cp)).setCell ⟨w.heap.size + 1 + 1, 3, none⟩ (.slice Aq n2 Cq) = w3 at kx kr ka hb op oq ⊢
  refine (ref0_CopyNumbers A3 n3 c3 ss _ (HU.out.below hb) (by omega) (by omega)).mono ?_
  rintro e w4 ⟨v3, rfl, or, hb4⟩
  have hz3 := kx.lt
  have ka3 := ka.later hb4
  have kr3 := kr.later hb4
  have kx3 := kx.later hb4
  have hbn3 := hb.trans (hb4.mono (by omega))
  have p3 := own_later op hb4
  have q3 := own_later oq hb4
  clear ka kr kx hb hb4 op oq
  obtain ⟨Ar, Cr, rfl⟩ := own_slice or
  have ner := own_blk_ne or kx3 (by decide)
  have nrr := own_blk_ne or kr3 (by decide)
  have x0 : w4.cell? ⟨w.heap.size + 1 + 1, 0, none⟩ = some (.int .i64 a) := kx3.at_ rfl
  have x1 : w4.cell? ⟨w.heap.size + 1 + 1, 1, none⟩ = some (.int .i64 ra) := kx3.at_ rfl
  have x2 : w4.cell? ⟨w.heap.size + 1 + 1, 2, none⟩ = some (.slice Ap n1 Cp) := kx3.at_ rfl
  have x3 : w4.cell? ⟨w.heap.size + 1 + 1, 3, none⟩ = some (.slice Aq n2 Cq) := kx3.at_ rfl
  have x4 : w4.cell? ⟨w.heap.size + 1 + 1, 4, none⟩ = some (.int .i64 d) := kx3.at_ rfl
  have x5 : w4.cell? ⟨w.heap.size + 1 + 1, 5, none⟩ = some (.slice A3 n3 c3) := kx3.at_ rfl
  have a0 : w4.cell? ⟨w.heap.size, 0, none⟩ = some (.int .i64 a) := ka3.at_ rfl
  have a1 : w4.cell? ⟨w.heap.size, 1, none⟩ = some (.int .i64 ra) := ka3.at_ rfl
  have a2 : w4.cell? ⟨w.heap.size, 2, none⟩ = some (.slice A1 n1 c1) := ka3.at_ rfl
  have a3 : w4.cell? ⟨w.heap.size, 3, none⟩ = some (.slice A2 n2 c2) := ka3.at_ rfl
  have a4 : w4.cell? ⟨w.heap.size, 4, none⟩ = some (.int .i64 d) := ka3.at_ rfl
  have a5 : w4.cell? ⟨w.heap.size, 5, none⟩ = some (.slice A3 n3 c3) := ka3.at_ rfl
  have fx5 := kx3.frozen 5
  have r0 : w4.cell? ⟨w.heap.size + 1, 0, none⟩ = some (.int .i64 0) := kr3.at_ rfl
  have g0 := kr3.frozen 0
  have r1 : w4.cell? ⟨w.heap.size + 1, 1, none⟩ = some (.int .i64 0) := kr3.at_ rfl
  have g1 := kr3.frozen 1
  have r2 : w4.cell? ⟨w.heap.size + 1, 2, none⟩ = some (.slice none 0 0) := kr3.at_ rfl
  have g2 := kr3.frozen 2
  have r3 : w4.cell? ⟨w.heap.size + 1, 3, none⟩ = some (.slice none 0 0) := kr3.at_ rfl
  have g3 := kr3.frozen 3
  have r4 : w4.cell? ⟨w.heap.size + 1, 4, none⟩ = some (.int .i64 0) := kr3.at_ rfl
  have g4 := kr3.frozen 4
  have r5 : w4.cell? ⟨w.heap.size + 1, 5, none⟩ = some (.slice none 0 0) := kr3.at_ rfl
  have g5 := kr3.frozen 5
  go_wp2_with fail
  have KRF : Blk (((((((w4.setCell ⟨w.heap.size + 1 + 1, 5, none⟩ (.slice Ar n3 Cr)).setCell ⟨w.heap.size + 1, 0, none⟩ (.int .i64 a)).setCell ⟨w.heap.size + 1, 1, none⟩ (.int .i64 ra)).setCell ⟨w.heap.size + 1, 2, none⟩ (.slice Ap n1 Cp)).setCell ⟨w.heap.size + 1, 3, none⟩ (.slice Aq n2 Cq)).setCell ⟨w.heap.size + 1, 4, none⟩ (.int .i64 d)).setCell ⟨w.heap.size + 1, 5, none⟩ (.slice Ar n3 Cr)) (w.heap.size + 1) 40 #[.int .i64 a, .int .i64 ra, .slice Ap n1 Cp, .slice Aq n2 Cq, .int .i64 d, .slice Ar n3 Cr] := (((((((kr3.far (p := ⟨w.heap.size + 1 + 1, 5, none⟩) (by simp) (.slice Ar n3 Cr)).set_ 0 (.int .i64 a)).set_ 1 (.int .i64 ra)).set_ 2 (.slice Ap n1 Cp)).set_ 3 (.slice Aq n2 Cq)).set_ 4 (.int .i64 d)).set_ 5 (.slice Ar n3 Cr))
  have OWp := (((((((p3.kept (grown_set w4 (w.heap.size + 1 + 1) 5 (.slice Ar n3 Cr)) (Or.inr nep)).kept (grown_set (w4.setCell ⟨w.heap.size + 1 + 1, 5, none⟩ (.slice Ar n3 Cr)) (w.heap.size + 1) 0 (.int .i64 a)) (Or.inr nrp)).kept (grown_set ((w4.setCell ⟨w.heap.size + 1 + 1, 5, none⟩ (.slice Ar n3 Cr)).setCell ⟨w.heap.size + 1, 0, none⟩ (.int .i64 a)) (w.heap.size + 1) 1 (.int .i64 ra)) (Or.inr nrp)).kept (grown_set (((w4.setCell ⟨w.heap.size + 1 + 1, 5, none⟩ (.slice Ar n3 Cr)).setCell ⟨w.heap.size + 1, 0, none⟩ (.int .i64 a)).setCell ⟨w.heap.size + 1, 1, none⟩ (.int .i64 ra)) (w.heap.size + 1) 2 (.slice Ap n1 Cp)) (Or.inr nrp)).kept (grown_set ((((w4.setCell ⟨w.heap.size + 1 + 1, 5, none⟩ (.slice Ar n3 Cr)).setCell ⟨w.heap.size + 1, 0, none⟩ (.int .i64 a)).setCell ⟨w.heap.size + 1, 1, none⟩ (.int .i64 ra)).setCell ⟨w.heap.size + 1, 2, none⟩ (.slice Ap n1 Cp)) (w.heap.size + 1) 3 (.slice Aq n2 Cq)) (Or.inr nrp)).kept (grown_set (((((w4.setCell ⟨w.heap.size + 1 + 1, 5, none⟩ (.slice Ar n3 Cr)).setCell ⟨w.heap.size + 1, 0, none⟩ (.int .i64 a)).setCell ⟨w.heap.size + 1, 1, none⟩ (.int .i64 ra)).setCell ⟨w.heap.size + 1, 2, none⟩ (.slice Ap n1 Cp)).setCell ⟨w.heap.size + 1, 3, none⟩ (.slice Aq n2 Cq)) (w.heap.size + 1) 4 (.int .i64 d)) (Or.inr nrp)).kept (grown_set ((((((w4.setCell ⟨w.heap.size + 1 + 1, 5, none⟩ (.slice Ar n3 Cr)).setCell ⟨w.heap.size + 1, 0, none⟩ (.int .i64 a)).setCell ⟨w.heap.size + 1, 1, none⟩ (.int .i64 ra)).setCell ⟨w.heap.size + 1, 2, none⟩ (.slice Ap n1 Cp)).setCell ⟨w.heap.size + 1, 3, none⟩ (.slice Aq n2 Cq)).setCell ⟨w.heap.size + 1, 4, none⟩ (.int .i64 d)) (w.heap.size + 1) 5 (.slice Ar n3 Cr)) (Or.inr nrp))
  have OWq := (((((((q3.kept (grown_set w4 (w.heap.size + 1 + 1) 5 (.slice Ar n3 Cr)) (Or.inr neq)).kept (grown_set (w4.setCell ⟨w.heap.size + 1 + 1, 5, none⟩ (.slice Ar n3 Cr)) (w.heap.size + 1) 0 (.int .i64 a)) (Or.inr nrq)).kept (grown_set ((w4.setCell ⟨w.heap.size + 1 + 1, 5, none⟩ (.slice Ar n3 Cr)).setCell ⟨w.heap.size + 1, 0, none⟩ (.int .i64 a)) (w.heap.size + 1) 1 (.int .i64 ra)) (Or.inr nrq)).kept (grown_set (((w4.setCell ⟨w.heap.size + 1 + 1, 5, none⟩ (.slice Ar n3 Cr)).setCell ⟨w.heap.size + 1, 0, none⟩ (.int .i64 a)).setCell ⟨w.heap.size + 1, 1, none⟩ (.int .i64 ra)) (w.heap.size + 1) 2 (.slice Ap n1 Cp)) (Or.inr nrq)).kept (grown_set ((((w4.setCell ⟨w.heap.size + 1 + 1, 5, none⟩ (.slice Ar n3 Cr)).setCell ⟨w.heap.size + 1, 0, none⟩ (.int .i64 a)).setCell ⟨w.heap.size + 1, 1, none⟩ (.int .i64 ra)).setCell ⟨w.heap.size + 1, 2, none⟩ (.slice Ap n1 Cp)) (w.heap.size + 1) 3 (.slice Aq n2 Cq)) (Or.inr nrq)).kept (grown_set (((((w4.setCell ⟨w.heap.size + 1 + 1, 5, none⟩ (.slice Ar n3 Cr)).setCell ⟨w.heap.size + 1, 0, none⟩ (.int .i64 a)).setCell ⟨w.heap.size + 1, 1, none⟩ (.int .i64 ra)).setCell ⟨w.heap.size + 1, 2, none⟩ (.slice Ap n1 Cp)).setCell ⟨w.heap.size + 1, 3, none⟩ (.slice Aq n2 Cq)) (w.heap.size + 1) 4 (.int .i64 d)) (Or.inr nrq)).kept (grown_set ((((((w4.setCell ⟨w.heap.size + 1 + 1, 5, none⟩ (.slice Ar n3 Cr)).setCell ⟨w.heap.size + 1, 0, none⟩ (.int .i64 a)).setCell ⟨w.heap.size + 1, 1, none⟩ (.int .i64 ra)).setCell ⟨w.heap.size + 1, 2, none⟩ (.slice Ap n1 Cp)).setCell ⟨w.heap.size + 1, 3, none⟩ (.slice Aq n2 Cq)).setCell ⟨w.heap.size + 1, 4, none⟩ (.int .i64 d)) (w.heap.size + 1) 5 (.slice Ar n3 Cr)) (Or.inr nrq))
  have OWr := (((((((or.kept (grown_set w4 (w.heap.size + 1 + 1) 5 (.slice Ar n3 Cr)) (Or.inr ner)).kept (grown_set (w4.setCell ⟨w.heap.size + 1 + 1, 5, none⟩ (.slice Ar n3 Cr)) (w.heap.size + 1) 0 (.int .i64 a)) (Or.inr nrr)).kept (grown_set ((w4.setCell ⟨w.heap.size + 1 + 1, 5, none⟩ (.slice Ar n3 Cr)).setCell ⟨w.heap.size + 1, 0, none⟩ (.int .i64 a)) (w.heap.size + 1) 1 (.int .i64 ra)) (Or.inr nrr)).kept (grown_set (((w4.setCell ⟨w.heap.size + 1 + 1, 5, none⟩ (.slice Ar n3 Cr)).setCell ⟨w.heap.size + 1, 0, none⟩ (.int .i64 a)).setCell ⟨w.heap.size + 1, 1, none⟩ (.int .i64 ra)) (w.heap.size + 1) 2 (.slice Ap n1 Cp)) (Or.inr nrr)).kept (grown_set ((((w4.setCell ⟨w.heap.size + 1 + 1, 5, none⟩ (.slice Ar n3 Cr)).setCell ⟨w.heap.size + 1, 0, none⟩ (.int .i64 a)).setCell ⟨w.heap.size + 1, 1, none⟩ (.int .i64 ra)).setCell ⟨w.heap.size + 1, 2, none⟩ (.slice Ap n1 Cp)) (w.heap.size + 1) 3 (.slice Aq n2 Cq)) (Or.inr nrr)).kept (grown_set (((((w4.setCell ⟨w.heap.size + 1 + 1, 5, none⟩ (.slice Ar n3 Cr)).setCell ⟨w.heap.size + 1, 0, none⟩ (.int .i64 a)).setCell ⟨w.heap.size + 1, 1, none⟩ (.int .i64 ra)).setCell ⟨w.heap.size + 1, 2, none⟩ (.slice Ap n1 Cp)).setCell ⟨w.heap.size + 1, 3, none⟩ (.slice Aq n2 Cq)) (w.heap.size + 1) 4 (.int .i64 d)) (Or.inr nrr)).kept (grown_set ((((((w4.setCell ⟨w.heap.size + 1 + 1, 5, none⟩ (.slice Ar n3 Cr)).setCell ⟨w.heap.size + 1, 0, none⟩ (.int .i64 a)).setCell ⟨w.heap.size + 1, 1, none⟩ (.int .i64 ra)).setCell ⟨w.heap.size + 1, 2, none⟩ (.slice Ap n1 Cp)).setCell ⟨w.heap.size + 1, 3, none⟩ (.slice Aq n2 Cq)).setCell ⟨w.heap.size + 1, 4, none⟩ (.int .i64 d)) (w.heap.size + 1) 5 (.slice Ar n3 Cr)) (Or.inr nrr))
  have HBF := (((((((hbn3.setCell (p := ⟨w.heap.size + 1 + 1, 5, none⟩) (by simp; try omega) (.slice Ar n3 Cr)).setCell (p := ⟨w.heap.size + 1, 0, none⟩) (by simp; try omega) (.int .i64 a)).setCell (p := ⟨w.heap.size + 1, 1, none⟩) (by simp; try omega) (.int .i64 ra)).setCell (p := ⟨w.heap.size + 1, 2, none⟩) (by simp; try omega) (.slice Ap n1 Cp)).setCell (p := ⟨w.heap.size + 1, 3, none⟩) (by simp; try omega) (.slice Aq n2 Cq)).setCell (p := ⟨w.heap.size + 1, 4, none⟩) (by simp; try omega) (.int .i64 d)).setCell (p := ⟨w.heap.size + 1, 5, none⟩) (by simp; try omega) (.slice Ar n3 Cr))
  clear ka3 kr3 kx3 hbn3 p3 q3 or x0 a0 r0 g0 x1 a1 r1 g1 x2 a2 r2 g2 x3 a3 r3 g3 x4 a4 r4 g4 x5 a5 r5 g5 fx5 nep nrp neq nrq ner nrr 
  generalize ((((((w4.setCell ⟨w.heap.size + 1 + 1, 5, none⟩ (.slice Ar n3 Cr)).setCell ⟨w.heap.size + 1, 0, none⟩ (.int .i64 a)).setCell ⟨w.heap.size + 1, 1, none⟩ (.int .i64 ra)).setCell ⟨w.heap.size + 1, 2, none⟩ (.slice Ap n1 Cp)).setCell ⟨w.heap.size + 1, 3, none⟩ (.slice Aq n2 Cq)).setCell ⟨w.heap.size + 1, 4, none⟩ (.int .i64 d)).setCell ⟨w.heap.size + 1, 5, none⟩ (.slice Ar n3 Cr) = wf at KRF OWp OWq OWr HBF ⊢
  have r0 : wf.cell? ⟨w.heap.size + 1, 0, none⟩ = some (.int .i64 a) := KRF.at_ rfl
  have r1 : wf.cell? ⟨w.heap.size + 1, 1, none⟩ = some (.int .i64 ra) := KRF.at_ rfl
  have r2 : wf.cell? ⟨w.heap.size + 1, 2, none⟩ = some (.slice Ap n1 Cp) := KRF.at_ rfl
  have r3 : wf.cell? ⟨w.heap.size + 1, 3, none⟩ = some (.slice Aq n2 Cq) := KRF.at_ rfl
  have r4 : wf.cell? ⟨w.heap.size + 1, 4, none⟩ = some (.int .i64 d) := KRF.at_ rfl
  have r5 : wf.cell? ⟨w.heap.size + 1, 5, none⟩ = some (.slice Ar n3 Cr) := KRF.at_ rfl
  exact bodyPost_ret (v := .agg #[.int .i64 a, .int .i64 ra, .slice Ap n1 Cp, .slice Aq n2 Cq, .int .i64 d, .slice Ar n3 Cr]) (by simp [results, Try.results37, go_sem, r0, r1, r2, r3, r4, r5]) rfl ⟨_, _, _, rfl, own_mono OWp (by omega), own_mono OWq (by omega), own_mono OWr (by omega), HBF⟩
end Go.Proofs.Ytebaojcfmkobjaa
