/-
  Texts joined: words and contracts that later texts use; lemmas alone, no conditions of a statement.
-/
import Derived.Test.YtmnogefpphonlaaMsgYa
import Derived.Test.YtmnogefpphonlaaMsgYb
import Derived.Test.YtmnogefpphonlaaMsgYc
import Derived.Test.YtmnogefpphonlaaSeg
import Derived.Test.YtmnogefpphonlaaGr23
import Derived.Test.YtmnogefpphonlaaGr05
set_option linter.unusedVariables false
set_option linter.unusedSimpArgs false
/-
  Contracts: droverref4.Message whole.
-/
namespace Go.Proofs.Ytmnogefpphonlaa
open Go.RowKit

set_option maxRecDepth 100000 in
set_option maxHeartbeats 4000000 in
theorem refM_no (n : Int) (x : MsD) (v : MsV) (w : World) {C : Array Value} (HC : Hid (C = msC x v)) (HP : Hid (pairM n x = false)) :
    Calls Try.prog 21 #[.agg C, .int .i64 n] w fun e w' => e = .returned (.bool false) ∧ Below w.heap.size w w' := by
  obtain ⟨pI, HI⟩ : ∃ p, Hid (isC n = p) := ⟨_, rfl⟩
  have HPI := hide HP.out
  rw [Hid, pairM, HI.out] at HPI
  have HPI := hide HPI
  clear HP
  go_enter Try.func21, Try.ntmps21
  go_upto_region 1 with fail
  have ka := Blk.new w 32 C
  have hb := below_alloc' w (.cells C 32)
  generalize w.alloc (.cells C 32) = w1 at ka hb ⊢
  have kr := Blk.new w1 32 #[.int .i64 0, .int .i64 0, .int .i64 0, .int .i64 0, .int .i64 0, .int .i64 0, .slice none 0 0, .int .i64 0, .int .i64 0, .slice none 0 0, .slice none 0 0, .int .i64 0, .int .i64 0, .slice none 0 0, .slice none 0 0, .int .i64 0, .slice none 0 0, .slice none 0 0]
  have ka' := ka.alloc (.cells #[.int .i64 0, .int .i64 0, .int .i64 0, .int .i64 0, .int .i64 0, .int .i64 0, .slice none 0 0, .int .i64 0, .int .i64 0, .slice none 0 0, .slice none 0 0, .int .i64 0, .int .i64 0, .slice none 0 0, .slice none 0 0, .int .i64 0, .slice none 0 0, .slice none 0 0] 32)
  have hb' := hb.alloc hb.size (.cells #[.int .i64 0, .int .i64 0, .int .i64 0, .int .i64 0, .int .i64 0, .int .i64 0, .slice none 0 0, .int .i64 0, .int .i64 0, .slice none 0 0, .slice none 0 0, .int .i64 0, .int .i64 0, .slice none 0 0, .slice none 0 0, .int .i64 0, .slice none 0 0, .slice none 0 0] 32)
  have HG : Hid (w.heap.size < w1.heap.size) := ka.lt
  have a0 : w1.cell? ⟨w.heap.size, 0, none⟩ = some (.int .i64 x.k) := ka.at_ (by rw [HC.out]; rfl)
  have a1 : w1.cell? ⟨w.heap.size, 1, none⟩ = some (.int .i64 x.f) := ka.at_ (by rw [HC.out]; rfl)
  have a2 : w1.cell? ⟨w.heap.size, 2, none⟩ = some (.int .i64 x.t) := ka.at_ (by rw [HC.out]; rfl)
  go_wp2_with (refine wpList_store_row rfl 32 (.tmp 5) (.tmp 13) rfl _ rfl 32 _ (.agg #[.int .i64 x.k, .int .i64 x.f, .int .i64 x.t, .int .i64 0, .int .i64 0, .int .i64 0, .slice none 0 0, .int .i64 0, .int .i64 0, .slice none 0 0, .slice none 0 0, .int .i64 0, .int .i64 0, .slice none 0 0, .slice none 0 0, .int .i64 0, .slice none 0 0, .slice none 0 0]) rfl kr Try.infoMsg rfl (by simp [Value.cells, Value.oneCell']) ?_)
  intro w2 kr2' hg2
  have hb2 : Below w.heap.size w w2 := hb'.grown hg2 hb'.size (fun g e => by injection e with e; have := HG.out; omega)
  have ka2 := ka'.grown hg2 (by intro e; injection e with e; have := HG.out; omega)
  clear ka kr hb ka' hb' a0 a1 a2 hg2 kr2'
  generalize (Value.agg #[.int .i64 x.k, .int .i64 x.f, .int .i64 x.t, .int .i64 0, .int .i64 0, .int .i64 0, .slice none 0 0, .int .i64 0, .int .i64 0, .slice none 0 0, .slice none 0 0, .int .i64 0, .int .i64 0, .slice none 0 0, .slice none 0 0, .int .i64 0, .slice none 0 0, .slice none 0 0]) = V2
  have a1 : w2.cell? ⟨w.heap.size, 1, none⟩ = some (.int .i64 x.f) := ka2.at_ (by rw [HC.out]; rfl)
  have a2 : w2.cell? ⟨w.heap.size, 2, none⟩ = some (.int .i64 x.t) := ka2.at_ (by rw [HC.out]; rfl)
  have HB := hide hb2
  clear hb2
  go_wp2_with fail
  refine (ref2_May n _).mono ?_
  rintro e w' ⟨rfl, rfl⟩
  rw [HI.out]
  cases pI with
  | false =>
    go_wp2_with fail
    go_ret
    exact ⟨rfl, HB.out⟩
  | true =>
    have HN : Hid (¬ ((1 ≤ x.f ∧ x.f ≤ n) ∧ (1 ≤ x.t ∧ x.t ≤ n) ∧ x.f ≠ x.t)) := by
      rintro ⟨⟨q1, q2⟩, ⟨q3, q4⟩, q5⟩
      have h0 := HPI.out
      simp [q1, q2, q3, q4, q5] at h0
    by_cases g1 : x.f < 1
    · have e1 : decide (x.f < 1) = true := decide_eq_true g1
      clear g1
      go_wp2_with fail
      go_ret
      exact ⟨rfl, HB.out⟩
    have e1 : decide (x.f < 1) = false := decide_eq_false g1
    by_cases g2 : n < x.f
    · have e2 : decide (n < x.f) = true := decide_eq_true g2
      clear g1 g2
      go_wp2_with fail
      go_ret
      exact ⟨rfl, HB.out⟩
    have e2 : decide (n < x.f) = false := decide_eq_false g2
    by_cases g3 : x.t < 1
    · have e3 : decide (x.t < 1) = true := decide_eq_true g3
      clear g1 g2 g3
      go_wp2_with fail
      go_ret
      exact ⟨rfl, HB.out⟩
    have e3 : decide (x.t < 1) = false := decide_eq_false g3
    by_cases g4 : n < x.t
    · have e4 : decide (n < x.t) = true := decide_eq_true g4
      clear g1 g2 g3 g4
      go_wp2_with fail
      go_ret
      exact ⟨rfl, HB.out⟩
    have e4 : decide (n < x.t) = false := decide_eq_false g4
    have e5 : (x.f == x.t) = true := by
      rw [beq_iff_eq]
      refine Classical.byContradiction fun h => HN.out ⟨⟨by omega, by omega⟩, ⟨by omega, by omega⟩, h⟩
    clear g1 g2 g3 g4
    go_wp2_with fail
    go_ret
    exact ⟨rfl, HB.out⟩
theorem ref4_Message (n : Int) (x : MsD) (v : MsV) (w : World) (HS : Hid (MsS w x v)) (HZ : Hid (MsZ x v)) {C : Array Value} (HC : Hid (C = msC x v)) {r : Bool} (hr : Hid (mayM n x = r)) :
    Calls Try.prog 21 #[.agg C, .int .i64 n] w fun e w' => e = .returned (.bool r) ∧ Below w.heap.size w w' := by
  cases hp : pairM n x with
  | false =>
    have e : r = false := by rw [← hr.out, mayM, hp]; rfl
    subst e
    exact refM_no n x v w HC (hide hp)
  | true =>
    obtain ⟨z0, z1, z2, z3, z4, z5, z6, z7⟩ := HZ.out
    have hl := HS.out.ds.ilen_
    have hr2 : r = (okM n x && decide (onlyM x = x)) := by rw [← hr.out, mayM, hp, Bool.true_and]
    clear hr
    obtain ⟨k, f, t, d, ⟨ba, bn, l⟩, ⟨ha, hr, hbs, hps⟩, ⟨⟨ca, cr, cbs, cps⟩, cd, ss⟩, s⟩ := x
    obtain ⟨⟨A1, n1, c1⟩, ⟨A2, n2, c2⟩, ⟨A3, n3, c3⟩, ⟨A4, n4, c4⟩, ⟨A5, n5, c5⟩, ⟨A6, n6, c6⟩, ⟨A7, n7, c7⟩⟩ := v
    simp only at z0 z1 z2 z3 z4 z5 z6 z7 hl
    by_cases g1 : k = 1
    · subst g1
      exact refM_1 n f t d ba bn ha hr ca cr cd l hbs hps cbs cps ss s w HS HZ z0 z1 z2 z3 z4 z5 z6 z7 (hide hp) (q := _) rfl (by rw [Hid, hr2]; simp [Hid, okM, hasB, hasD, hasH, hasC, hasS]) HC
    by_cases g2 : k = 2
    · subst g2
      exact refM_2 n f t d ba bn ha hr ca cr cd l hbs hps cbs cps ss s w HS HZ z0 z1 z2 z3 z4 z5 z6 z7 (hide hp) (q := _) rfl (by rw [Hid, hr2]; simp [Hid, okM, hasB, hasD, hasH, hasC, hasS]) HC
    by_cases g3 : k = 3
    · subst g3
      exact refM_3 n f t d ba bn ha hr ca cr cd l hbs hps cbs cps ss s w HS HZ z0 z1 z2 z3 z4 z5 z6 z7 (hide hp) (q := _) rfl (by rw [Hid, hr2]; simp [Hid, okM, hasB, hasD, hasH, hasC, hasS]) HC
    by_cases g4 : k = 4
    · subst g4
      exact refM_4 n f t d ba bn ha hr ca cr cd l hbs hps cbs cps ss s w HS HZ z0 z1 z2 z3 z4 z5 z6 z7 (hide hp) (q := _) rfl (by rw [Hid, hr2]; simp [Hid, okM, hasB, hasD, hasH, hasC, hasS, Bool.beq_eq_decide_eq]) HC
    by_cases g5 : k = 5
    · subst g5
      exact refM_5 n f t d ba bn ha hr ca cr cd l hbs hps cbs cps ss s w HS HZ z0 z1 z2 z3 z4 z5 z6 z7 (hide hp) (q := _) rfl (by rw [Hid, hr2]; simp [Hid, okM, hasB, hasD, hasH, hasC, hasS]) HC
    by_cases g6 : k = 6
    · subst g6
      exact refM_6 n f t d ba bn ha hr ca cr cd l hbs hps cbs cps ss s w HS HZ z0 z1 z2 z3 z4 z5 z6 z7 (hide hp) (q := _) rfl (by rw [Hid, hr2]; simp [Hid, okM, hasB, hasD, hasH, hasC, hasS]) HC
    by_cases g7 : k = 7
    · subst g7
      exact refM_7 n f t d ba bn ha hr ca cr cd l hbs hps cbs cps ss s w HS HZ z0 z1 z2 z3 z4 z5 z6 z7 (hide hp) (q := _) rfl (by rw [Hid, hr2, show decide ((s.length : Int) ≤ 16) = decide (s.length ≤ 16) from by rw [decide_eq_decide]; omega]; simp [Hid, okM, hasB, hasD, hasH, hasC, hasS, hl]) HC
    by_cases g8 : k = 8
    · subst g8
      exact refM_8 n f t d ba bn ha hr ca cr cd l hbs hps cbs cps ss s w HS HZ z0 z1 z2 z3 z4 z5 z6 z7 (hide hp) (q := _) rfl (by rw [Hid, hr2, show decide ((s.length : Int) ≤ 16) = decide (s.length ≤ 16) from by rw [decide_eq_decide]; omega]; simp [Hid, okM, hasB, hasD, hasH, hasC, hasS, hl]) HC
    refine refM_x n k f t d ba bn ha hr ca cr cd l hbs hps cbs cps ss s w HS HZ z0 z1 z2 z3 z4 z5 z6 z7 (hide hp) (q := _) rfl ?_ g1 g2 g3 g4 g5 g6 g7 g8 HC
    have h5 : ¬ (1 ≤ k ∧ k ≤ 5) := by omega
    rw [Hid, hr2]
    simp [okM, hasB, hasD, hasH, hasC, hasS, g1, g3, g4, g6, g7, g8, h5]
end Go.Proofs.Ytmnogefpphonlaa
/-
  Words for the walks of layer 7's laws: the record of an ask, bounds, what a copy is.
-/
namespace Go.Proofs.Ytmnogefpphonlaa
open Go.RowKit

theorem twT_ge : ∀ (ls : List TxD) (n : Nat), n ≤ twT ls n
  | [], n => by simp [twT]
  | t :: r, n => by
    rw [twT]
    split
    · exact Nat.le_trans (by omega) (twT_ge r _)
    · exact Nat.le_refl _
theorem MsL.z {x : MsD} {v : MsV} (h : MsL x v) : MsZ x v :=
  ⟨fun t ht => by have := h.txz t ht; omega, by have := h.tx; omega, by have := h.hb; omega, by have := h.hp; omega, by have := h.cb; omega, by have := h.cp; omega, by have := h.cs; omega, by have := h.ds; omega⟩
theorem MsL.light {x : MsD} {v : MsV} (h : decide (2000 < msW x v) = false) : MsK x v := by
  have h1 : msW x v ≤ 2000 := by simpa using h
  unfold msW at h1
  have := twT_ge x.b.l v.tx.n
  exact ⟨by omega, by omega, by omega, by omega, by omega, by omega, by omega⟩
theorem MsE.z {x : MsD} {u v : MsV} (h : MsE u v) (hz : MsZ x v) : MsZ x u :=
  ⟨hz.txz, by rw [h.tx]; exact hz.tx, by rw [h.hb]; exact hz.hb, by rw [h.hp]; exact hz.hp, by rw [h.cb]; exact hz.cb, by rw [h.cp]; exact hz.cp, by rw [h.cs]; exact hz.cs, by rw [h.ds]; exact hz.ds⟩
theorem MsE.k {x : MsD} {u v : MsV} (h : MsE u v) (hz : MsK x v) : MsK x u :=
  ⟨by rw [h.tx]; exact hz.tx, by rw [h.hb]; exact hz.hb, by rw [h.hp]; exact hz.hp, by rw [h.cb]; exact hz.cb, by rw [h.cp]; exact hz.cp, by rw [h.cs]; exact hz.cs, by rw [h.ds]; exact hz.ds⟩
theorem MsO.s {B : Nat} {w : World} {x : MsD} {u : MsV} (h : MsO B w x u) : MsS w x u :=
  ⟨Sl.of_own h.tx, Sl.of_own h.hb, Sl.of_own h.hp, Sl.of_own h.cb, Sl.of_own h.cp, Sl.of_own h.cs, Sl.of_own h.ds⟩
/-- A copy, as a walk takes it. -/
theorem copy_msg {x : MsD} {v : MsV} {w : World} (HS : Hid (MsS w x v)) (HK : Hid (MsK x v)) (HZ : Hid (MsZ x v)) {C : Array Value} (HC : Hid (C = msC x v)) :
    Calls Try.prog 24 #[.agg C] w fun e w' => ∃ D u, e = .returned (.agg D) ∧ Hid (D = msC x u) ∧ Hid (MsS w' x u) ∧ Hid (MsZ x u ∧ MsK x u) ∧ Below w.heap.size w w' :=
  (ref0_CopyMessage x v w HS HK HC).mono fun _ _ ⟨D, u, h1, h2, h3⟩ => ⟨D, u, h1, h2.out.1, h2.out.2.1.s, ⟨h2.out.2.2.1.z HZ.out, h2.out.2.2.1.k HK.out⟩, h3⟩
def askC (x : MsD) (v : MsV) (N : Int) (s : Value) : Array Value := msC x v ++ #[.int .i64 N, s]
theorem msC_size {x : MsD} {v : MsV} : (msC x v).size = 18 := rfl
theorem ask_sub {x : MsD} {v : MsV} {N : Int} {s : Value} {C PC : Array Value} (hC : C = msC x v) (hP : PC = askC x v N s) : ∀ j z, C[j]? = some z → PC[0 + j]? = some z := by
  subst hC; subst hP
  intro j z hz
  have hj : j < 18 := by
    rcases Nat.lt_or_ge j 18 with h | h
    · exact h
    · rw [Array.getElem?_eq_none (by rw [msC_size]; exact h)] at hz; cases hz
  rw [Nat.zero_add, askC, Array.getElem?_append_left (by rw [msC_size]; exact hj)]
  exact hz
theorem ask_rng {w : World} {b o : Nat} {x : MsD} {v : MsV} {N : Int} {s : Value} {C PC : Array Value} (hC : C = msC x v) (hP : PC = askC x v N s)
    (h : ∀ j z, (msC x v)[j]? = some z → w.cell? ⟨b, o + j, none⟩ = some z) (h1 : w.cell? ⟨b, o + 18, none⟩ = some (.int .i64 N)) (h2 : w.cell? ⟨b, o + 19, none⟩ = some s) : Rng w b o PC ∧ Rng w b o C := by
  subst hC; subst hP
  refine ⟨⟨lt_of_cell h1, fun j z hz => ?_⟩, ⟨lt_of_cell h1, h⟩⟩
  rcases Nat.lt_or_ge j 18 with hj | hj
  · rw [askC, Array.getElem?_append_left (by rw [msC_size]; exact hj)] at hz
    exact h j z hz
  · rw [askC, Array.getElem?_append_right (by rw [msC_size]; exact hj), msC_size] at hz
    have hj2 : j < 20 := by
      rcases Nat.lt_or_ge j 20 with h | h
      · exact h
      · rw [Array.getElem?_eq_none (by show 2 ≤ _; omega)] at hz; cases hz
    obtain rfl | rfl : j = 18 ∨ j = 19 := by omega
    · obtain rfl : z = .int .i64 N := by injection hz with hz; exact hz.symm
      exact h1
    · obtain rfl : z = s := by injection hz with hz; exact hz.symm
      exact h2
def zMsgC : Array Value := msC zM zV
theorem alloc_msg (w : World) : (Instr.alloc 32 true (.tuple #[])).run Try.prog w = .ok (.pointer (some ⟨w.heap.size, 0, none⟩)) (w.alloc (.cells (msC zM zV) 32)) := by
  simp [go_sem, msC, zM, zV, nilV, SlV.v, zB, zH, zC]
theorem alloc_ask (w : World) : (Instr.alloc 35 true (.tuple #[])).run Try.prog w = .ok (.pointer (some ⟨w.heap.size, 0, none⟩)) (w.alloc (.cells (askC zM zV 0 (.slice none 0 0)) 35)) := by
  simp [go_sem, askC, msC, zM, zV, nilV, SlV.v, zB, zH, zC]
theorem info_ask : (Try.prog.info? 35).map (·.size) = some 20 := by kernel_rfl
theorem one_msg {x : MsD} {v : MsV} {C : Array Value} (h : C = msC x v) : ∀ z ∈ C.toList, z.oneCell' = true := by
  subst h; simp [msC, SlV.v, Value.oneCell']
theorem one_ask {x : MsD} {v : MsV} {N : Int} {A : Option Addr} {n c : Nat} {C : Array Value} (h : C = askC x v N (.slice A n c)) : ∀ z ∈ C.toList, z.oneCell' = true := by
  subst h; simp [askC, msC, SlV.v, Value.oneCell']
theorem build_msg {M : List (Nat × Value)} {o : Oper} {w : World} {Z : Array Value} (ho : o.op = .build 32 #[]) (hZ : Z = msC zM zV) : Ev Try.prog M o w (.agg Z) := fun a n h => by
  subst hZ
  simp only [execOp, ho]
  simp [go_sem, msC, zM, zV, nilV, SlV.v, zB, zH, zC]
theorem MsS.to {w : World} {x : MsD} {u : MsV} (h : MsS w x u) (k t : Int) : MsS w { x with k := k, t := t } u := ⟨h.tx, h.hb, h.hp, h.cb, h.cp, h.cs, h.ds⟩
theorem MsZ.to {x : MsD} {u : MsV} (h : MsZ x u) (k t : Int) : MsZ { x with k := k, t := t } u := ⟨h.txz, h.tx, h.hb, h.hp, h.cb, h.cp, h.cs, h.ds⟩
theorem zM_s (w : World) : MsS w zM zV := zV_s w zM ⟨rfl, rfl, rfl, rfl⟩
theorem zM_z : MsZ zM zV := zV_z zM ⟨rfl, rfl, rfl, rfl⟩
end Go.Proofs.Ytmnogefpphonlaa
