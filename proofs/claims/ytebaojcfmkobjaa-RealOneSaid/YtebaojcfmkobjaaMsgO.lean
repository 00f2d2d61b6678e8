/-
  Contracts: message.only whole, message.head, message.May.
-/
import Derived.Test.YtebaojcfmkobjaaMsgM
import Derived.Deep.DeepCutAuto
set_option linter.unusedVariables false
set_option linter.unusedSimpArgs false
namespace Go.Proofs.Ytebaojcfmkobjaa
open Go.RowKit

theorem Sl.ilen_ {w : World} {A : Option Addr} {n : Nat} {l : List Int} (h : Sl w 1 A n (ints l)) : l.length = n := by have := h.1; simp [ints] at this; omega
theorem MsS.only {w : World} {x : MsD} {v : MsV} (h : MsS w x v) : MsS w (onlyM x) (onlyV x.k v) := by
  constructor
  all_goals
    simp only [onlyM, onlyV]
  · split
    · exact h.tx
    · exact Sl.nil_
  · split
    · exact h.hb
    · exact Sl.nil_
  · split
    · exact h.hp
    · exact Sl.nil_
  · split
    · exact h.cb
    · exact Sl.nil_
  · split
    · exact h.cp
    · exact Sl.nil_
  · split
    · exact h.cs
    · exact Sl.nil_
  · split
    · exact h.ds
    · exact Sl.nil_
theorem may_tests {n : Int} {x y : MsD} {v u : MsV} {w : World} (hs : MsS w x v) (hp : pairM n x = true) (hy : onlyM x = y) (hu : onlyV x.k v = u) :
    mayM n x = (okM n x && ((x.d == y.d) && ((x.b.a == y.b.a) && ((x.b.n == y.b.n) && ((v.tx.n == u.tx.n) && (decide (x.h.a = y.h.a ∧ x.h.r = y.h.r ∧ v.hb.n = u.hb.n ∧ v.hp.n = u.hp.n) && (decide (x.c.h.a = y.c.h.a ∧ x.c.h.r = y.c.h.r ∧ v.cb.n = u.cb.n ∧ v.cp.n = u.cp.n) && ((x.c.d == y.c.d) && ((v.cs.n == u.cs.n) && (v.ds.n == u.ds.n)))))))))) := by
  subst hy; subst hu
  have ho := hs.only
  have a1 := hs.tx.txlen; have a2 := hs.hb.ilen_; have a3 := hs.hp.ilen_; have a4 := hs.cb.ilen_; have a5 := hs.cp.ilen_; have a6 := hs.cs.ilen_; have a7 := hs.ds.ilen_
  have b1 := ho.tx.txlen; have b2 := ho.hb.ilen_; have b3 := ho.hp.ilen_; have b4 := ho.cb.ilen_; have b5 := ho.cp.ilen_; have b6 := ho.cs.ilen_; have b7 := ho.ds.ilen_
  rw [Bool.eq_iff_iff, mayM_iff, only_iff]
  rw [← a1, ← a2, ← a3, ← a4, ← a5, ← a6, ← a7, ← b1, ← b2, ← b3, ← b4, ← b5, ← b6, ← b7]
  simp only [hp, true_and, Bool.and_eq_true, beq_iff_eq, decide_eq_true_eq]

theorem message_only (n : Int) (x : MsD) (v : MsV) (w : World) (HS : Hid (MsS w x v)) (HZ : Hid (MsZ x v)) {C : Array Value} (HC : Hid (C = msC x v)) :
    Calls Try.prog 66 #[.agg C, .int .i64 n] w fun e w' => ∃ D, e = .returned (.tuple #[.agg D, .bool (okM n x)]) ∧ Hid (D = msC (onlyM x) (onlyV x.k v)) ∧ Below w.heap.size w w' := by
  obtain ⟨z0, z1, z2, z3, z4, z5, z6, z7⟩ := HZ.out
  have hl := HS.out.ds.ilen_
  obtain ⟨k, f, t, d, ⟨ba, bn, l⟩, ⟨ha, hr, hbs, hps⟩, ⟨⟨ca, cr, cbs, cps⟩, cd, ss⟩, s⟩ := x
  obtain ⟨⟨A1, n1, c1⟩, ⟨A2, n2, c2⟩, ⟨A3, n3, c3⟩, ⟨A4, n4, c4⟩, ⟨A5, n5, c5⟩, ⟨A6, n6, c6⟩, ⟨A7, n7, c7⟩⟩ := v
  simp only at z0 z1 z2 z3 z4 z5 z6 z7 hl
  by_cases g1 : k = 1
  · subst g1
    refine (only_1 n f t d ba bn ha hr ca cr cd l hbs hps cbs cps ss s w HS z0 z1 z2 z3 z4 z5 z6 z7 (r := okM n ⟨1, f, t, d, ⟨ba, bn, l⟩, ⟨ha, hr, hbs, hps⟩, ⟨⟨ca, cr, cbs, cps⟩, cd, ss⟩, s⟩) (by simp [Hid, okM, hasB, hasD, hasH, hasC, hasS]) HC).mono ?_
    rintro e w' ⟨rfl, hb⟩
    exact ⟨_, rfl, by simp [Hid, msC, onlyM, onlyV, hasB, hasD, hasH, hasC, hasS, zB, zH, zC, nilV, SlV.v], hb⟩
  by_cases g2 : k = 2
  · subst g2
    refine (only_2 n f t d ba bn ha hr ca cr cd l hbs hps cbs cps ss s w HS z0 z1 z2 z3 z4 z5 z6 z7 (r := okM n ⟨2, f, t, d, ⟨ba, bn, l⟩, ⟨ha, hr, hbs, hps⟩, ⟨⟨ca, cr, cbs, cps⟩, cd, ss⟩, s⟩) (by simp [Hid, okM, hasB, hasD, hasH, hasC, hasS]) HC).mono ?_
    rintro e w' ⟨rfl, hb⟩
    exact ⟨_, rfl, by simp [Hid, msC, onlyM, onlyV, hasB, hasD, hasH, hasC, hasS, zB, zH, zC, nilV, SlV.v], hb⟩
  by_cases g3 : k = 3
  · subst g3
    refine (only_3 n f t d ba bn ha hr ca cr cd l hbs hps cbs cps ss s w HS z0 z1 z2 z3 z4 z5 z6 z7 (r := okM n ⟨3, f, t, d, ⟨ba, bn, l⟩, ⟨ha, hr, hbs, hps⟩, ⟨⟨ca, cr, cbs, cps⟩, cd, ss⟩, s⟩) (by simp [Hid, okM, hasB, hasD, hasH, hasC, hasS]) HC).mono ?_
    rintro e w' ⟨rfl, hb⟩
    exact ⟨_, rfl, by simp [Hid, msC, onlyM, onlyV, hasB, hasD, hasH, hasC, hasS, zB, zH, zC, nilV, SlV.v], hb⟩
  by_cases g4 : k = 4
  · subst g4
    refine (only_4 n f t d ba bn ha hr ca cr cd l hbs hps cbs cps ss s w HS z0 z1 z2 z3 z4 z5 z6 z7 (r := okM n ⟨4, f, t, d, ⟨ba, bn, l⟩, ⟨ha, hr, hbs, hps⟩, ⟨⟨ca, cr, cbs, cps⟩, cd, ss⟩, s⟩) (by simp [Hid, okM, hasB, hasD, hasH, hasC, hasS, Bool.beq_eq_decide_eq]) HC).mono ?_
    rintro e w' ⟨rfl, hb⟩
    exact ⟨_, rfl, by simp [Hid, msC, onlyM, onlyV, hasB, hasD, hasH, hasC, hasS, zB, zH, zC, nilV, SlV.v], hb⟩
  by_cases g5 : k = 5
  · subst g5
    refine (only_5 n f t d ba bn ha hr ca cr cd l hbs hps cbs cps ss s w HS z0 z1 z2 z3 z4 z5 z6 z7 (r := okM n ⟨5, f, t, d, ⟨ba, bn, l⟩, ⟨ha, hr, hbs, hps⟩, ⟨⟨ca, cr, cbs, cps⟩, cd, ss⟩, s⟩) (by simp [Hid, okM, hasB, hasD, hasH, hasC, hasS]) HC).mono ?_
    rintro e w' ⟨rfl, hb⟩
    exact ⟨_, rfl, by simp [Hid, msC, onlyM, onlyV, hasB, hasD, hasH, hasC, hasS, zB, zH, zC, nilV, SlV.v], hb⟩
  by_cases g6 : k = 6
  · subst g6
    refine (only_6 n f t d ba bn ha hr ca cr cd l hbs hps cbs cps ss s w HS z0 z1 z2 z3 z4 z5 z6 z7 (r := okM n ⟨6, f, t, d, ⟨ba, bn, l⟩, ⟨ha, hr, hbs, hps⟩, ⟨⟨ca, cr, cbs, cps⟩, cd, ss⟩, s⟩) (by simp [Hid, okM, hasB, hasD, hasH, hasC, hasS]) HC).mono ?_
    rintro e w' ⟨rfl, hb⟩
    exact ⟨_, rfl, by simp [Hid, msC, onlyM, onlyV, hasB, hasD, hasH, hasC, hasS, zB, zH, zC, nilV, SlV.v], hb⟩
  by_cases g7 : k = 7
  · subst g7
    refine (only_7 n f t d ba bn ha hr ca cr cd l hbs hps cbs cps ss s w HS z0 z1 z2 z3 z4 z5 z6 z7 (r := okM n ⟨7, f, t, d, ⟨ba, bn, l⟩, ⟨ha, hr, hbs, hps⟩, ⟨⟨ca, cr, cbs, cps⟩, cd, ss⟩, s⟩) (by simp [Hid, okM, hasB, hasD, hasH, hasC, hasS, hl]) HC).mono ?_
    rintro e w' ⟨rfl, hb⟩
    exact ⟨_, rfl, by simp [Hid, msC, onlyM, onlyV, hasB, hasD, hasH, hasC, hasS, zB, zH, zC, nilV, SlV.v], hb⟩
  by_cases g8 : k = 8
  · subst g8
    refine (only_8 n f t d ba bn ha hr ca cr cd l hbs hps cbs cps ss s w HS z0 z1 z2 z3 z4 z5 z6 z7 (r := okM n ⟨8, f, t, d, ⟨ba, bn, l⟩, ⟨ha, hr, hbs, hps⟩, ⟨⟨ca, cr, cbs, cps⟩, cd, ss⟩, s⟩) (by simp [Hid, okM, hasB, hasD, hasH, hasC, hasS, hl]) HC).mono ?_
    rintro e w' ⟨rfl, hb⟩
    exact ⟨_, rfl, by simp [Hid, msC, onlyM, onlyV, hasB, hasD, hasH, hasC, hasS, zB, zH, zC, nilV, SlV.v], hb⟩
  refine (only_x n k f t d ba bn ha hr ca cr cd l hbs hps cbs cps ss s w HS z0 z1 z2 z3 z4 z5 z6 z7 (r := okM n ⟨k, f, t, d, ⟨ba, bn, l⟩, ⟨ha, hr, hbs, hps⟩, ⟨⟨ca, cr, cbs, cps⟩, cd, ss⟩, s⟩) ?_ g1 g2 g3 g4 g5 g6 g7 g8 HC).mono ?_
  · have h5 : ¬ (1 ≤ k ∧ k ≤ 5) := by omega
    simp [Hid, okM, hasB, hasD, hasH, hasC, hasS, g1, g3, g4, g6, g7, g8, h5]
  · have h5 : ¬ (1 ≤ k ∧ k ≤ 5) := by omega
    rintro e w' ⟨rfl, hb⟩
    exact ⟨_, rfl, by simp [Hid, msC, onlyM, onlyV, hasB, hasD, hasH, hasC, hasS, g1, g3, g4, g6, g7, g8, h5, zB, zH, zC, nilV, SlV.v], hb⟩
set_option maxRecDepth 100000 in
set_option maxHeartbeats 2000000 in
theorem message_head {A1 A2 B1 B2 : Option Addr} {n1 c1 n2 c2 m1 d1 m2 d2 : Nat} (a r b q : Int) (w : World) :
    Calls Try.prog 67 #[.agg #[.int .i64 a, .int .i64 r, .slice A1 n1 c1, .slice A2 n2 c2], .agg #[.int .i64 b, .int .i64 q, .slice B1 m1 d1, .slice B2 m2 d2]] w
      fun e w' => e = .returned (.bool (decide (a = b ∧ r = q ∧ n1 = m1 ∧ n2 = m2))) ∧ Below w.heap.size w w' := by
  have hb : Below w.heap.size w ((w.alloc (.cells #[.int .i64 a, .int .i64 r, .slice A1 n1 c1, .slice A2 n2 c2] 38)).alloc (.cells #[.int .i64 b, .int .i64 q, .slice B1 m1 d1, .slice B2 m2 d2] 38)) := (below_alloc' w _).alloc (by simp) _
  have HB := hide hb
  clear hb
  by_cases h1 : a = b
  case neg =>
    have hd1 : (a == b) = false := by simpa using h1
    have HN : Hid (¬ (a = b ∧ r = q ∧ n1 = m1 ∧ n2 = m2)) := fun h => h1 h.1
    clear h1
    go_enter Try.func67, Try.ntmps67
    go_wp2_with fail
    go_ret
    exact ⟨ret_bool (by first | exact (decide_eq_false HN.out).symm | simp [HN.out]), HB.out⟩
  by_cases h2 : r = q
  case neg =>
    have hd1 : (a == b) = true := by simpa using h1
    have hd2 : (r == q) = false := by simpa using h2
    have HN : Hid (¬ (a = b ∧ r = q ∧ n1 = m1 ∧ n2 = m2)) := fun h => h2 h.2.1
    clear h1 h2
    go_enter Try.func67, Try.ntmps67
    go_wp2_with fail
    go_ret
    exact ⟨ret_bool (by first | exact (decide_eq_false HN.out).symm | simp [HN.out]), HB.out⟩
  subst h1
  subst h2
  by_cases h3 : n1 = m1
  case neg =>
    have hd3 : ((n1 : Int) == (m1 : Int)) = false := by simp; omega
    have hd3' : (n1 == m1) = false := by simpa using h3
    have HM : Hid (n1 ≠ m1) := h3
    clear h3
    go_enter Try.func67, Try.ntmps67
    go_wp2_with fail
    go_ret
    exact ⟨ret_bool (by have := HM.out; simp; omega), HB.out⟩
  subst h3
  go_enter Try.func67, Try.ntmps67
  go_wp2_with fail
  go_ret
  refine ⟨ret_bool ?_, HB.out⟩
  rw [Bool.eq_iff_iff]
  simp
  try omega
end Go.Proofs.Ytebaojcfmkobjaa
