/-
  Contracts: what a message's kind names of it: the program's, the rest.
-/
import Derived.Test.YtebaojcfmkobjaaGr03
import Derived.Test.YtebaojcfmkobjaaGr04
import Derived.Deep.RegionHeld3
import Derived.Deep.DeepCutAuto
import Derived.Test.YtebaojcfmkobjaaGr00
import Derived.Test.YtebaojcfmkobjaaMsgN
set_option linter.unusedVariables false
set_option linter.unusedSimpArgs false
namespace Go.Proofs.Ytebaojcfmkobjaa
open Go.RowKit

set_option maxRecDepth 100000 in
set_option maxHeartbeats 2000000 in
theorem only_5 {A1 A2 A3 A4 A5 A6 A7 : Option Addr} {n1 c1 n2 c2 n3 c3 n4 c4 n5 c5 n6 c6 n7 c7 : Nat} (n f t d ba bn ha hr ca cr cd : Int) (l : List TxD) (hbs hps cbs cps ss ds : List Int) (w : World)
    (HS0 : Hid (MsS w ⟨5, f, t, d, ⟨ba, bn, l⟩, ⟨ha, hr, hbs, hps⟩, ⟨⟨ca, cr, cbs, cps⟩, cd, ss⟩, ds⟩ ⟨⟨A1, n1, c1⟩, ⟨A2, n2, c2⟩, ⟨A3, n3, c3⟩, ⟨A4, n4, c4⟩, ⟨A5, n5, c5⟩, ⟨A6, n6, c6⟩, ⟨A7, n7, c7⟩⟩)) (HTZ : Hid (TxZ l))
    (hz1 : n1 ≤ 9223372036854775807) (hz2 : n2 ≤ 9223372036854775807) (hz3 : n3 ≤ 9223372036854775807) (hz4 : n4 ≤ 9223372036854775807) (hz5 : n5 ≤ 9223372036854775807) (hz6 : n6 ≤ 9223372036854775807) (hz7 : n7 ≤ 9223372036854775807) {r : Bool} (HR2 : Hid (r = (digO d))) {C : Array Value} (HC : Hid (C = #[.int .i64 5, .int .i64 f, .int .i64 t, .int .i64 d, .int .i64 ba, .int .i64 bn, .slice A1 n1 c1, .int .i64 ha, .int .i64 hr, .slice A2 n2 c2, .slice A3 n3 c3, .int .i64 ca, .int .i64 cr, .slice A4 n4 c4, .slice A5 n5 c5, .int .i64 cd, .slice A6 n6 c6, .slice A7 n7 c7])) :
    Calls Try.prog 66 #[.agg C, .int .i64 n] w fun e w' => e = .returned (.tuple #[.agg #[.int .i64 5, .int .i64 f, .int .i64 t, .int .i64 d, .int .i64 0, .int .i64 0, .slice none 0 0, .int .i64 0, .int .i64 0, .slice none 0 0, .slice none 0 0, .int .i64 0, .int .i64 0, .slice none 0 0, .slice none 0 0, .int .i64 0, .slice none 0 0, .slice none 0 0], .bool r]) ∧ Below w.heap.size w w' := by
  go_enter Try.func66, Try.ntmps66
  go_upto_region 1 with fail
  have kr := Blk.new2 w (.cells C 42) 42 #[.int .i64 0, .int .i64 0, .int .i64 0, .int .i64 0, .int .i64 0, .int .i64 0, .slice none 0 0, .int .i64 0, .int .i64 0, .slice none 0 0, .slice none 0 0, .int .i64 0, .int .i64 0, .slice none 0 0, .slice none 0 0, .int .i64 0, .slice none 0 0, .slice none 0 0]
  have ka := (Blk.new w 42 C).alloc (.cells #[.int .i64 0, .int .i64 0, .int .i64 0, .int .i64 0, .int .i64 0, .int .i64 0, .slice none 0 0, .int .i64 0, .int .i64 0, .slice none 0 0, .slice none 0 0, .int .i64 0, .int .i64 0, .slice none 0 0, .slice none 0 0, .int .i64 0, .slice none 0 0, .slice none 0 0] 42)
  have hb : Below w.heap.size w ((w.alloc (.cells C 42)).alloc (.cells #[.int .i64 0, .int .i64 0, .int .i64 0, .int .i64 0, .int .i64 0, .int .i64 0, .slice none 0 0, .int .i64 0, .int .i64 0, .slice none 0 0, .slice none 0 0, .int .i64 0, .int .i64 0, .slice none 0 0, .slice none 0 0, .int .i64 0, .slice none 0 0, .slice none 0 0] 42)) := (below_alloc' w _).alloc (by simp) _
  generalize (w.alloc (.cells C 42)).alloc (.cells #[.int .i64 0, .int .i64 0, .int .i64 0, .int .i64 0, .int .i64 0, .int .i64 0, .slice none 0 0, .int .i64 0, .int .i64 0, .slice none 0 0, .slice none 0 0, .int .i64 0, .int .i64 0, .slice none 0 0, .slice none 0 0, .int .i64 0, .slice none 0 0, .slice none 0 0] 42) = w1 at ka kr hb ⊢
  have a0 : w1.cell? ⟨w.heap.size, 0, none⟩ = some (.int .i64 5) := ka.at_ (by rw [HC.out]; rfl)
  have a1 : w1.cell? ⟨w.heap.size, 1, none⟩ = some (.int .i64 f) := ka.at_ (by rw [HC.out]; rfl)
  have a2 : w1.cell? ⟨w.heap.size, 2, none⟩ = some (.int .i64 t) := ka.at_ (by rw [HC.out]; rfl)
  go_wp2_with (refine wpList_store_row rfl 42 (.tmp 4) (.tmp 12) rfl _ rfl 42 _ (.agg #[.int .i64 5, .int .i64 f, .int .i64 t, .int .i64 0, .int .i64 0, .int .i64 0, .slice none 0 0, .int .i64 0, .int .i64 0, .slice none 0 0, .slice none 0 0, .int .i64 0, .int .i64 0, .slice none 0 0, .slice none 0 0, .int .i64 0, .slice none 0 0, .slice none 0 0]) rfl kr Try.infoMsg rfl (by simp [Value.cells, Value.oneCell']) ?_)
  intro w2 kr2' hg2
  have kr2 : Blk w2 (w.heap.size + 1) 42 #[.int .i64 5, .int .i64 f, .int .i64 t, .int .i64 0, .int .i64 0, .int .i64 0, .slice none 0 0, .int .i64 0, .int .i64 0, .slice none 0 0, .slice none 0 0, .int .i64 0, .int .i64 0, .slice none 0 0, .slice none 0 0, .int .i64 0, .slice none 0 0, .slice none 0 0] := kr2'
  have hb2 : Below w.heap.size w w2 := hb.grown hg2 (by have := ka.lt; omega) (fun g e => by injection e with e; omega)
  have ka2 := ka.grown hg2 (by intro e; injection e with e; omega)
  clear ka kr hb a0 a1 a2 hg2 kr2'
  generalize (Value.agg #[.int .i64 5, .int .i64 f, .int .i64 t, .int .i64 0, .int .i64 0, .int .i64 0, .slice none 0 0, .int .i64 0, .int .i64 0, .slice none 0 0, .slice none 0 0, .int .i64 0, .int .i64 0, .slice none 0 0, .slice none 0 0, .int .i64 0, .slice none 0 0, .slice none 0 0]) = V2
  have a0 : w2.cell? ⟨w.heap.size, 0, none⟩ = some (.int .i64 5) := ka2.at_ (by rw [HC.out]; rfl)
  have a23 : w2.cell? ⟨w.heap.size, 3, none⟩ = some (.int .i64 d) := ka2.at_ (by rw [HC.out]; rfl)
  have r3 : w2.cell? ⟨w.heap.size + 1, 3, none⟩ = some (.int .i64 0) := kr2.at_ rfl
  have f3 := kr2.frozen 3
  have KK := hide (And.intro (kr2.set_ 3 (.int .i64 d)) (And.intro (ka2.far (p := ⟨w.heap.size + 1, 3, none⟩) (by simp) (.int .i64 d)) (hb2.setCell (p := ⟨w.heap.size + 1, 3, none⟩) (by simp) (.int .i64 d))))
  clear kr2 ka2 hb2
  go_upto_region 10 with fail
  generalize w2.setCell ⟨w.heap.size + 1, 3, none⟩ (.int .i64 d) = w3 at KK ⊢
  obtain ⟨kr3, ka3, hb3⟩ := KK.out
  clear KK a0 a23 r3 f3
  obtain ⟨w4, rfl⟩ : ∃ wo : World, wo = w3 := ⟨_, rfl⟩
  have HS4 := hide (HS0.out.below hb3)
  have b3 : w4.cell? ⟨w.heap.size, 3, none⟩ = some (.int .i64 d) := ka3.at_ (by rw [HC.out]; rfl)
  obtain ⟨pd, HD⟩ : ∃ p, Hid (digO d = p) := ⟨_, rfl⟩
  rw [HD.out] at HR2
  go_wp2_with fail
  refine (com_Digest d _).mono ?_
  rintro e w' ⟨rfl, rfl⟩
  rw [HD.out]
  have kr5 := kr3
  have hb5 := hb3
  obtain ⟨FA, HFA⟩ : ∃ FA : Array Value, Hid (FA = #[.int .i64 5, .int .i64 f, .int .i64 t, .int .i64 d, .int .i64 0, .int .i64 0, .slice none 0 0, .int .i64 0, .int .i64 0, .slice none 0 0, .slice none 0 0, .int .i64 0, .int .i64 0, .slice none 0 0, .slice none 0 0, .int .i64 0, .slice none 0 0, .slice none 0 0]) := ⟨_, rfl⟩
  have HFS : Hid (FA.size = 18) := by rw [Hid, HFA.out]; rfl
  have HF1 : Hid (∀ u ∈ FA.toList, u.oneCell' = true) := by rw [Hid, HFA.out]; simp [Value.oneCell']
  have kr6 : Blk w4 (w.heap.size + 1) 42 FA := by rw [HFA.out]; exact kr5
  clear kr5
  go_wp2_with (first
    | (refine wpList_load_blk rfl 42 (.tmp 4) rfl _ rfl 42 FA _ kr6 Try.underlying42 rfl (by rw [HFS.out]; exact Try.infoMsg) ?_)
    | (refine wpList_store_row rfl 42 (.tmp 4) (.tmp 103) rfl _ rfl 42 FA (.agg FA) rfl kr6 (by rw [show (Value.agg FA).cells = FA from rfl, HFS.out]; exact Try.infoMsg) rfl HF1.out ?_))
  intro w7 kr7' hg7
  have kr7 : Blk w7 (w.heap.size + 1) 42 FA := kr7'
  have hb7 : Below w.heap.size w w7 := hb5.grown hg7 hb5.size (fun g e => by injection e with e; omega)
  clear hg7 kr6 hb5 kr7'
  go_wp2_with fail
  exact bodyPost_ret (results_cell_row2 Try.results66 _ _ _ _ _ _ _ rfl kr7 Try.underlying42 rfl (by rw [HFS.out]; exact Try.infoMsg)) rfl ⟨ret_pair2 HFA.out (by rw [HR2.out] <;> (rfl)), hb7⟩
set_option maxRecDepth 100000 in
set_option maxHeartbeats 2000000 in
theorem only_6 {A1 A2 A3 A4 A5 A6 A7 : Option Addr} {n1 c1 n2 c2 n3 c3 n4 c4 n5 c5 n6 c6 n7 c7 : Nat} (n f t d ba bn ha hr ca cr cd : Int) (l : List TxD) (hbs hps cbs cps ss ds : List Int) (w : World)
    (HS0 : Hid (MsS w ⟨6, f, t, d, ⟨ba, bn, l⟩, ⟨ha, hr, hbs, hps⟩, ⟨⟨ca, cr, cbs, cps⟩, cd, ss⟩, ds⟩ ⟨⟨A1, n1, c1⟩, ⟨A2, n2, c2⟩, ⟨A3, n3, c3⟩, ⟨A4, n4, c4⟩, ⟨A5, n5, c5⟩, ⟨A6, n6, c6⟩, ⟨A7, n7, c7⟩⟩)) (HTZ : Hid (TxZ l))
    (hz1 : n1 ≤ 9223372036854775807) (hz2 : n2 ≤ 9223372036854775807) (hz3 : n3 ≤ 9223372036854775807) (hz4 : n4 ≤ 9223372036854775807) (hz5 : n5 ≤ 9223372036854775807) (hz6 : n6 ≤ 9223372036854775807) (hz7 : n7 ≤ 9223372036854775807) {r : Bool} (HR2 : Hid (r = (mayC n ⟨⟨ca, cr, cbs, cps⟩, cd, ss⟩))) {C : Array Value} (HC : Hid (C = #[.int .i64 6, .int .i64 f, .int .i64 t, .int .i64 d, .int .i64 ba, .int .i64 bn, .slice A1 n1 c1, .int .i64 ha, .int .i64 hr, .slice A2 n2 c2, .slice A3 n3 c3, .int .i64 ca, .int .i64 cr, .slice A4 n4 c4, .slice A5 n5 c5, .int .i64 cd, .slice A6 n6 c6, .slice A7 n7 c7])) :
    Calls Try.prog 66 #[.agg C, .int .i64 n] w fun e w' => e = .returned (.tuple #[.agg #[.int .i64 6, .int .i64 f, .int .i64 t, .int .i64 0, .int .i64 0, .int .i64 0, .slice none 0 0, .int .i64 0, .int .i64 0, .slice none 0 0, .slice none 0 0, .int .i64 ca, .int .i64 cr, .slice A4 n4 c4, .slice A5 n5 c5, .int .i64 cd, .slice A6 n6 c6, .slice none 0 0], .bool r]) ∧ Below w.heap.size w w' := by
  go_enter Try.func66, Try.ntmps66
  go_upto_region 1 with fail
  have kr := Blk.new2 w (.cells C 42) 42 #[.int .i64 0, .int .i64 0, .int .i64 0, .int .i64 0, .int .i64 0, .int .i64 0, .slice none 0 0, .int .i64 0, .int .i64 0, .slice none 0 0, .slice none 0 0, .int .i64 0, .int .i64 0, .slice none 0 0, .slice none 0 0, .int .i64 0, .slice none 0 0, .slice none 0 0]
  have ka := (Blk.new w 42 C).alloc (.cells #[.int .i64 0, .int .i64 0, .int .i64 0, .int .i64 0, .int .i64 0, .int .i64 0, .slice none 0 0, .int .i64 0, .int .i64 0, .slice none 0 0, .slice none 0 0, .int .i64 0, .int .i64 0, .slice none 0 0, .slice none 0 0, .int .i64 0, .slice none 0 0, .slice none 0 0] 42)
  have hb : Below w.heap.size w ((w.alloc (.cells C 42)).alloc (.cells #[.int .i64 0, .int .i64 0, .int .i64 0, .int .i64 0, .int .i64 0, .int .i64 0, .slice none 0 0, .int .i64 0, .int .i64 0, .slice none 0 0, .slice none 0 0, .int .i64 0, .int .i64 0, .slice none 0 0, .slice none 0 0, .int .i64 0, .slice none 0 0, .slice none 0 0] 42)) := (below_alloc' w _).alloc (by simp) _
  generalize (w.alloc (.cells C 42)).alloc (.cells #[.int .i64 0, .int .i64 0, .int .i64 0, .int .i64 0, .int .i64 0, .int .i64 0, .slice none 0 0, .int .i64 0, .int .i64 0, .slice none 0 0, .slice none 0 0, .int .i64 0, .int .i64 0, .slice none 0 0, .slice none 0 0, .int .i64 0, .slice none 0 0, .slice none 0 0] 42) = w1 at ka kr hb ⊢
  have a0 : w1.cell? ⟨w.heap.size, 0, none⟩ = some (.int .i64 6) := ka.at_ (by rw [HC.out]; rfl)
  have a1 : w1.cell? ⟨w.heap.size, 1, none⟩ = some (.int .i64 f) := ka.at_ (by rw [HC.out]; rfl)
  have a2 : w1.cell? ⟨w.heap.size, 2, none⟩ = some (.int .i64 t) := ka.at_ (by rw [HC.out]; rfl)
  go_wp2_with (refine wpList_store_row rfl 42 (.tmp 4) (.tmp 12) rfl _ rfl 42 _ (.agg #[.int .i64 6, .int .i64 f, .int .i64 t, .int .i64 0, .int .i64 0, .int .i64 0, .slice none 0 0, .int .i64 0, .int .i64 0, .slice none 0 0, .slice none 0 0, .int .i64 0, .int .i64 0, .slice none 0 0, .slice none 0 0, .int .i64 0, .slice none 0 0, .slice none 0 0]) rfl kr Try.infoMsg rfl (by simp [Value.cells, Value.oneCell']) ?_)
  intro w2 kr2' hg2
  have kr2 : Blk w2 (w.heap.size + 1) 42 #[.int .i64 6, .int .i64 f, .int .i64 t, .int .i64 0, .int .i64 0, .int .i64 0, .slice none 0 0, .int .i64 0, .int .i64 0, .slice none 0 0, .slice none 0 0, .int .i64 0, .int .i64 0, .slice none 0 0, .slice none 0 0, .int .i64 0, .slice none 0 0, .slice none 0 0] := kr2'
  have hb2 : Below w.heap.size w w2 := hb.grown hg2 (by have := ka.lt; omega) (fun g e => by injection e with e; omega)
  have ka2 := ka.grown hg2 (by intro e; injection e with e; omega)
  clear ka kr hb a0 a1 a2 hg2 kr2'
  generalize (Value.agg #[.int .i64 6, .int .i64 f, .int .i64 t, .int .i64 0, .int .i64 0, .int .i64 0, .slice none 0 0, .int .i64 0, .int .i64 0, .slice none 0 0, .slice none 0 0, .int .i64 0, .int .i64 0, .slice none 0 0, .slice none 0 0, .int .i64 0, .slice none 0 0, .slice none 0 0]) = V2
  have a0 : w2.cell? ⟨w.heap.size, 0, none⟩ = some (.int .i64 6) := ka2.at_ (by rw [HC.out]; rfl)
  have a31 : w2.cell? ⟨w.heap.size, 11, none⟩ = some (.int .i64 ca) := ka2.at_ (by rw [HC.out]; rfl)
  have a32 : w2.cell? ⟨w.heap.size, 12, none⟩ = some (.int .i64 cr) := ka2.at_ (by rw [HC.out]; rfl)
  have a33 : w2.cell? ⟨w.heap.size, 13, none⟩ = some (.slice A4 n4 c4) := ka2.at_ (by rw [HC.out]; rfl)
  have a34 : w2.cell? ⟨w.heap.size, 14, none⟩ = some (.slice A5 n5 c5) := ka2.at_ (by rw [HC.out]; rfl)
  have a35 : w2.cell? ⟨w.heap.size, 15, none⟩ = some (.int .i64 cd) := ka2.at_ (by rw [HC.out]; rfl)
  have a36 : w2.cell? ⟨w.heap.size, 16, none⟩ = some (.slice A6 n6 c6) := ka2.at_ (by rw [HC.out]; rfl)
  have r11 : w2.cell? ⟨w.heap.size + 1, 11, none⟩ = some (.int .i64 0) := kr2.at_ rfl
  have f11 := kr2.frozen 11
  have r12 : w2.cell? ⟨w.heap.size + 1, 12, none⟩ = some (.int .i64 0) := kr2.at_ rfl
  have f12 := kr2.frozen 12
  have r13 : w2.cell? ⟨w.heap.size + 1, 13, none⟩ = some (.slice none 0 0) := kr2.at_ rfl
  have f13 := kr2.frozen 13
  have r14 : w2.cell? ⟨w.heap.size + 1, 14, none⟩ = some (.slice none 0 0) := kr2.at_ rfl
  have f14 := kr2.frozen 14
  have r15 : w2.cell? ⟨w.heap.size + 1, 15, none⟩ = some (.int .i64 0) := kr2.at_ rfl
  have f15 := kr2.frozen 15
  have r16 : w2.cell? ⟨w.heap.size + 1, 16, none⟩ = some (.slice none 0 0) := kr2.at_ rfl
  have f16 := kr2.frozen 16
  have KK := hide (And.intro ((((((kr2.set_ 11 (.int .i64 ca)).set_ 12 (.int .i64 cr)).set_ 13 (.slice A4 n4 c4)).set_ 14 (.slice A5 n5 c5)).set_ 15 (.int .i64 cd)).set_ 16 (.slice A6 n6 c6)) (And.intro ((((((ka2.far (p := ⟨w.heap.size + 1, 11, none⟩) (by simp) (.int .i64 ca)).far (p := ⟨w.heap.size + 1, 12, none⟩) (by simp) (.int .i64 cr)).far (p := ⟨w.heap.size + 1, 13, none⟩) (by simp) (.slice A4 n4 c4)).far (p := ⟨w.heap.size + 1, 14, none⟩) (by simp) (.slice A5 n5 c5)).far (p := ⟨w.heap.size + 1, 15, none⟩) (by simp) (.int .i64 cd)).far (p := ⟨w.heap.size + 1, 16, none⟩) (by simp) (.slice A6 n6 c6)) ((((((hb2.setCell (p := ⟨w.heap.size + 1, 11, none⟩) (by simp) (.int .i64 ca)).setCell (p := ⟨w.heap.size + 1, 12, none⟩) (by simp) (.int .i64 cr)).setCell (p := ⟨w.heap.size + 1, 13, none⟩) (by simp) (.slice A4 n4 c4)).setCell (p := ⟨w.heap.size + 1, 14, none⟩) (by simp) (.slice A5 n5 c5)).setCell (p := ⟨w.heap.size + 1, 15, none⟩) (by simp) (.int .i64 cd)).setCell (p := ⟨w.heap.size + 1, 16, none⟩) (by simp) (.slice A6 n6 c6))))
  clear kr2 ka2 hb2
  go_upto_region 16 with fail
  generalize (((((w2.setCell ⟨w.heap.size + 1, 11, none⟩ (.int .i64 ca)).setCell ⟨w.heap.size + 1, 12, none⟩ (.int .i64 cr)).setCell ⟨w.heap.size + 1, 13, none⟩ (.slice A4 n4 c4)).setCell ⟨w.heap.size + 1, 14, none⟩ (.slice A5 n5 c5)).setCell ⟨w.heap.size + 1, 15, none⟩ (.int .i64 cd)).setCell ⟨w.heap.size + 1, 16, none⟩ (.slice A6 n6 c6) = w3 at KK ⊢
  obtain ⟨kr3, ka3, hb3⟩ := KK.out
  clear KK a0 a31 r11 f11 a32 r12 f12 a33 r13 f13 a34 r14 f14 a35 r15 f15 a36 r16 f16
  obtain ⟨w4, rfl⟩ : ∃ wo : World, wo = w3 := ⟨_, rfl⟩
  have HS4 := hide (HS0.out.below hb3)
  have b11 : w4.cell? ⟨w.heap.size, 11, none⟩ = some (.int .i64 ca) := ka3.at_ (by rw [HC.out]; rfl)
  have b12 : w4.cell? ⟨w.heap.size, 12, none⟩ = some (.int .i64 cr) := ka3.at_ (by rw [HC.out]; rfl)
  have b13 : w4.cell? ⟨w.heap.size, 13, none⟩ = some (.slice A4 n4 c4) := ka3.at_ (by rw [HC.out]; rfl)
  have b14 : w4.cell? ⟨w.heap.size, 14, none⟩ = some (.slice A5 n5 c5) := ka3.at_ (by rw [HC.out]; rfl)
  have b15 : w4.cell? ⟨w.heap.size, 15, none⟩ = some (.int .i64 cd) := ka3.at_ (by rw [HC.out]; rfl)
  have b16 : w4.cell? ⟨w.heap.size, 16, none⟩ = some (.slice A6 n6 c6) := ka3.at_ (by rw [HC.out]; rfl)
  obtain ⟨pc, HPC⟩ : ∃ p, Hid (mayC n ⟨⟨ca, cr, cbs, cps⟩, cd, ss⟩ = p) := ⟨_, rfl⟩
  rw [HPC.out] at HR2
  go_wp2_with fail
  refine (header_MayCert n ⟨⟨ca, cr, cbs, cps⟩, cd, ss⟩ _ HS4.out.cb HS4.out.cp HS4.out.cs hz4 hz5 hz6 HPC).mono ?_
  rintro e w5 ⟨rfl, hb4'⟩
  have kr4 := kr3.later hb4'
  have hb4 := below_then hb3 hb4'
  have kr5 := kr4
  have hb5 := hb4
  obtain ⟨FA, HFA⟩ : ∃ FA : Array Value, Hid (FA = #[.int .i64 6, .int .i64 f, .int .i64 t, .int .i64 0, .int .i64 0, .int .i64 0, .slice none 0 0, .int .i64 0, .int .i64 0, .slice none 0 0, .slice none 0 0, .int .i64 ca, .int .i64 cr, .slice A4 n4 c4, .slice A5 n5 c5, .int .i64 cd, .slice A6 n6 c6, .slice none 0 0]) := ⟨_, rfl⟩
  have HFS : Hid (FA.size = 18) := by rw [Hid, HFA.out]; rfl
  have HF1 : Hid (∀ u ∈ FA.toList, u.oneCell' = true) := by rw [Hid, HFA.out]; simp [Value.oneCell']
  have kr6 : Blk w5 (w.heap.size + 1) 42 FA := by rw [HFA.out]; exact kr5
  clear kr5
  go_wp2_with (first
    | (refine wpList_load_blk rfl 42 (.tmp 4) rfl _ rfl 42 FA _ kr6 Try.underlying42 rfl (by rw [HFS.out]; exact Try.infoMsg) ?_)
    | (refine wpList_store_row rfl 42 (.tmp 4) (.tmp 103) rfl _ rfl 42 FA (.agg FA) rfl kr6 (by rw [show (Value.agg FA).cells = FA from rfl, HFS.out]; exact Try.infoMsg) rfl HF1.out ?_))
  intro w7 kr7' hg7
  have kr7 : Blk w7 (w.heap.size + 1) 42 FA := kr7'
  have hb7 : Below w.heap.size w w7 := hb5.grown hg7 hb5.size (fun g e => by injection e with e; omega)
  clear hg7 kr6 hb5 kr7'
  go_wp2_with fail
  exact bodyPost_ret (results_cell_row2 Try.results66 _ _ _ _ _ _ _ rfl kr7 Try.underlying42 rfl (by rw [HFS.out]; exact Try.infoMsg)) rfl ⟨ret_pair2 HFA.out (by rw [HR2.out] <;> (rfl)), hb7⟩
set_option maxRecDepth 100000 in
set_option maxHeartbeats 2000000 in
theorem only_7 {A1 A2 A3 A4 A5 A6 A7 : Option Addr} {n1 c1 n2 c2 n3 c3 n4 c4 n5 c5 n6 c6 n7 c7 : Nat} (n f t d ba bn ha hr ca cr cd : Int) (l : List TxD) (hbs hps cbs cps ss ds : List Int) (w : World)
    (HS0 : Hid (MsS w ⟨7, f, t, d, ⟨ba, bn, l⟩, ⟨ha, hr, hbs, hps⟩, ⟨⟨ca, cr, cbs, cps⟩, cd, ss⟩, ds⟩ ⟨⟨A1, n1, c1⟩, ⟨A2, n2, c2⟩, ⟨A3, n3, c3⟩, ⟨A4, n4, c4⟩, ⟨A5, n5, c5⟩, ⟨A6, n6, c6⟩, ⟨A7, n7, c7⟩⟩)) (HTZ : Hid (TxZ l))
    (hz1 : n1 ≤ 9223372036854775807) (hz2 : n2 ≤ 9223372036854775807) (hz3 : n3 ≤ 9223372036854775807) (hz4 : n4 ≤ 9223372036854775807) (hz5 : n5 ≤ 9223372036854775807) (hz6 : n6 ≤ 9223372036854775807) (hz7 : n7 ≤ 9223372036854775807) {r : Bool} (HR2 : Hid (r = (decide (1 ≤ n7) && (decide (n7 ≤ 16) && digs ds)))) {C : Array Value} (HC : Hid (C = #[.int .i64 7, .int .i64 f, .int .i64 t, .int .i64 d, .int .i64 ba, .int .i64 bn, .slice A1 n1 c1, .int .i64 ha, .int .i64 hr, .slice A2 n2 c2, .slice A3 n3 c3, .int .i64 ca, .int .i64 cr, .slice A4 n4 c4, .slice A5 n5 c5, .int .i64 cd, .slice A6 n6 c6, .slice A7 n7 c7])) :
    Calls Try.prog 66 #[.agg C, .int .i64 n] w fun e w' => e = .returned (.tuple #[.agg #[.int .i64 7, .int .i64 f, .int .i64 t, .int .i64 0, .int .i64 0, .int .i64 0, .slice none 0 0, .int .i64 0, .int .i64 0, .slice none 0 0, .slice none 0 0, .int .i64 0, .int .i64 0, .slice none 0 0, .slice none 0 0, .int .i64 0, .slice none 0 0, .slice A7 n7 c7], .bool r]) ∧ Below w.heap.size w w' := by
  go_enter Try.func66, Try.ntmps66
  go_upto_region 1 with fail
  have kr := Blk.new2 w (.cells C 42) 42 #[.int .i64 0, .int .i64 0, .int .i64 0, .int .i64 0, .int .i64 0, .int .i64 0, .slice none 0 0, .int .i64 0, .int .i64 0, .slice none 0 0, .slice none 0 0, .int .i64 0, .int .i64 0, .slice none 0 0, .slice none 0 0, .int .i64 0, .slice none 0 0, .slice none 0 0]
  have ka := (Blk.new w 42 C).alloc (.cells #[.int .i64 0, .int .i64 0, .int .i64 0, .int .i64 0, .int .i64 0, .int .i64 0, .slice none 0 0, .int .i64 0, .int .i64 0, .slice none 0 0, .slice none 0 0, .int .i64 0, .int .i64 0, .slice none 0 0, .slice none 0 0, .int .i64 0, .slice none 0 0, .slice none 0 0] 42)
  have hb : Below w.heap.size w ((w.alloc (.cells C 42)).alloc (.cells #[.int .i64 0, .int .i64 0, .int .i64 0, .int .i64 0, .int .i64 0, .int .i64 0, .slice none 0 0, .int .i64 0, .int .i64 0, .slice none 0 0, .slice none 0 0, .int .i64 0, .int .i64 0, .slice none 0 0, .slice none 0 0, .int .i64 0, .slice none 0 0, .slice none 0 0] 42)) := (below_alloc' w _).alloc (by simp) _
  generalize (w.alloc (.cells C 42)).alloc (.cells #[.int .i64 0, .int .i64 0, .int .i64 0, .int .i64 0, .int .i64 0, .int .i64 0, .slice none 0 0, .int .i64 0, .int .i64 0, .slice none 0 0, .slice none 0 0, .int .i64 0, .int .i64 0, .slice none 0 0, .slice none 0 0, .int .i64 0, .slice none 0 0, .slice none 0 0] 42) = w1 at ka kr hb ⊢
  have a0 : w1.cell? ⟨w.heap.size, 0, none⟩ = some (.int .i64 7) := ka.at_ (by rw [HC.out]; rfl)
  have a1 : w1.cell? ⟨w.heap.size, 1, none⟩ = some (.int .i64 f) := ka.at_ (by rw [HC.out]; rfl)
  have a2 : w1.cell? ⟨w.heap.size, 2, none⟩ = some (.int .i64 t) := ka.at_ (by rw [HC.out]; rfl)
  go_wp2_with (refine wpList_store_row rfl 42 (.tmp 4) (.tmp 12) rfl _ rfl 42 _ (.agg #[.int .i64 7, .int .i64 f, .int .i64 t, .int .i64 0, .int .i64 0, .int .i64 0, .slice none 0 0, .int .i64 0, .int .i64 0, .slice none 0 0, .slice none 0 0, .int .i64 0, .int .i64 0, .slice none 0 0, .slice none 0 0, .int .i64 0, .slice none 0 0, .slice none 0 0]) rfl kr Try.infoMsg rfl (by simp [Value.cells, Value.oneCell']) ?_)
  intro w2 kr2' hg2
  have kr2 : Blk w2 (w.heap.size + 1) 42 #[.int .i64 7, .int .i64 f, .int .i64 t, .int .i64 0, .int .i64 0, .int .i64 0, .slice none 0 0, .int .i64 0, .int .i64 0, .slice none 0 0, .slice none 0 0, .int .i64 0, .int .i64 0, .slice none 0 0, .slice none 0 0, .int .i64 0, .slice none 0 0, .slice none 0 0] := kr2'
  have hb2 : Below w.heap.size w w2 := hb.grown hg2 (by have := ka.lt; omega) (fun g e => by injection e with e; omega)
  have ka2 := ka.grown hg2 (by intro e; injection e with e; omega)
  clear ka kr hb a0 a1 a2 hg2 kr2'
  generalize (Value.agg #[.int .i64 7, .int .i64 f, .int .i64 t, .int .i64 0, .int .i64 0, .int .i64 0, .slice none 0 0, .int .i64 0, .int .i64 0, .slice none 0 0, .slice none 0 0, .int .i64 0, .int .i64 0, .slice none 0 0, .slice none 0 0, .int .i64 0, .slice none 0 0, .slice none 0 0]) = V2
  have a0 : w2.cell? ⟨w.heap.size, 0, none⟩ = some (.int .i64 7) := ka2.at_ (by rw [HC.out]; rfl)
  have a37 : w2.cell? ⟨w.heap.size, 17, none⟩ = some (.slice A7 n7 c7) := ka2.at_ (by rw [HC.out]; rfl)
  have r17 : w2.cell? ⟨w.heap.size + 1, 17, none⟩ = some (.slice none 0 0) := kr2.at_ rfl
  have f17 := kr2.frozen 17
  have KK := hide (And.intro (kr2.set_ 17 (.slice A7 n7 c7)) (And.intro (ka2.far (p := ⟨w.heap.size + 1, 17, none⟩) (by simp) (.slice A7 n7 c7)) (hb2.setCell (p := ⟨w.heap.size + 1, 17, none⟩) (by simp) (.slice A7 n7 c7))))
  clear kr2 ka2 hb2
  go_upto_region 20 with fail
  generalize w2.setCell ⟨w.heap.size + 1, 17, none⟩ (.slice A7 n7 c7) = w3 at KK ⊢
  obtain ⟨kr3, ka3, hb3⟩ := KK.out
  clear KK a0 a37 r17 f17
  obtain ⟨w4, rfl⟩ : ∃ wo : World, wo = w3 := ⟨_, rfl⟩
  have HS4 := hide (HS0.out.below hb3)
  have b17 : w4.cell? ⟨w.heap.size, 17, none⟩ = some (.slice A7 n7 c7) := ka3.at_ (by rw [HC.out]; rfl)
  obtain ⟨ps, HPS⟩ : ∃ p, Hid (digs ds = p) := ⟨_, rfl⟩
  rw [HPS.out] at HR2
  by_cases hn : 1 ≤ n7
  case neg =>
    have hd1 : decide ((1 : Int) ≤ (n7 : Int)) = false := by rw [decide_eq_false_iff_not]; omega
    have HN := hide hn
    clear hn
    have kr5 := kr3
    have hb5 := hb3
    obtain ⟨FA, HFA⟩ : ∃ FA : Array Value, Hid (FA = #[.int .i64 7, .int .i64 f, .int .i64 t, .int .i64 0, .int .i64 0, .int .i64 0, .slice none 0 0, .int .i64 0, .int .i64 0, .slice none 0 0, .slice none 0 0, .int .i64 0, .int .i64 0, .slice none 0 0, .slice none 0 0, .int .i64 0, .slice none 0 0, .slice A7 n7 c7]) := ⟨_, rfl⟩
    have HFS : Hid (FA.size = 18) := by rw [Hid, HFA.out]; rfl
    have HF1 : Hid (∀ u ∈ FA.toList, u.oneCell' = true) := by rw [Hid, HFA.out]; simp [Value.oneCell']
    have kr6 : Blk w4 (w.heap.size + 1) 42 FA := by rw [HFA.out]; exact kr5
    clear kr5
    go_wp2_with (first
      | (refine wpList_load_blk rfl 42 (.tmp 4) rfl _ rfl 42 FA _ kr6 Try.underlying42 rfl (by rw [HFS.out]; exact Try.infoMsg) ?_)
      | (refine wpList_store_row rfl 42 (.tmp 4) (.tmp 103) rfl _ rfl 42 FA (.agg FA) rfl kr6 (by rw [show (Value.agg FA).cells = FA from rfl, HFS.out]; exact Try.infoMsg) rfl HF1.out ?_))
    intro w7 kr7' hg7
    have kr7 : Blk w7 (w.heap.size + 1) 42 FA := kr7'
    have hb7 : Below w.heap.size w w7 := hb5.grown hg7 hb5.size (fun g e => by injection e with e; omega)
    clear hg7 kr6 hb5 kr7'
    go_wp2_with fail
    exact bodyPost_ret (results_cell_row2 Try.results66 _ _ _ _ _ _ _ rfl kr7 Try.underlying42 rfl (by rw [HFS.out]; exact Try.infoMsg)) rfl ⟨ret_pair2 HFA.out (by rw [HR2.out] <;> (first | (simp; done) | (have := HN.out; simp; omega) | (have := HN.out; simp [this.1, this.2]))), hb7⟩
  by_cases hm : n7 ≤ 16
  case neg =>
    have hd1 : decide ((1 : Int) ≤ (n7 : Int)) = true := by rw [decide_eq_true_eq]; omega
    have hd2 : decide ((n7 : Int) ≤ 16) = false := by rw [decide_eq_false_iff_not]; omega
    have HN := hide hm
    clear hm
    have kr5 := kr3
    have hb5 := hb3
    obtain ⟨FA, HFA⟩ : ∃ FA : Array Value, Hid (FA = #[.int .i64 7, .int .i64 f, .int .i64 t, .int .i64 0, .int .i64 0, .int .i64 0, .slice none 0 0, .int .i64 0, .int .i64 0, .slice none 0 0, .slice none 0 0, .int .i64 0, .int .i64 0, .slice none 0 0, .slice none 0 0, .int .i64 0, .slice none 0 0, .slice A7 n7 c7]) := ⟨_, rfl⟩
    have HFS : Hid (FA.size = 18) := by rw [Hid, HFA.out]; rfl
    have HF1 : Hid (∀ u ∈ FA.toList, u.oneCell' = true) := by rw [Hid, HFA.out]; simp [Value.oneCell']
    have kr6 : Blk w4 (w.heap.size + 1) 42 FA := by rw [HFA.out]; exact kr5
    clear kr5
    go_wp2_with (first
      | (refine wpList_load_blk rfl 42 (.tmp 4) rfl _ rfl 42 FA _ kr6 Try.underlying42 rfl (by rw [HFS.out]; exact Try.infoMsg) ?_)
      | (refine wpList_store_row rfl 42 (.tmp 4) (.tmp 103) rfl _ rfl 42 FA (.agg FA) rfl kr6 (by rw [show (Value.agg FA).cells = FA from rfl, HFS.out]; exact Try.infoMsg) rfl HF1.out ?_))
    intro w7 kr7' hg7
    have kr7 : Blk w7 (w.heap.size + 1) 42 FA := kr7'
    have hb7 : Below w.heap.size w w7 := hb5.grown hg7 hb5.size (fun g e => by injection e with e; omega)
    clear hg7 kr6 hb5 kr7'
    go_wp2_with fail
    exact bodyPost_ret (results_cell_row2 Try.results66 _ _ _ _ _ _ _ rfl kr7 Try.underlying42 rfl (by rw [HFS.out]; exact Try.infoMsg)) rfl ⟨ret_pair2 HFA.out (by rw [HR2.out] <;> (first | (simp; done) | (have := HN.out; simp; omega) | (have := HN.out; simp [this.1, this.2]))), hb7⟩
  have hd1 : decide ((1 : Int) ≤ (n7 : Int)) = true := by rw [decide_eq_true_eq]; omega
  have hd2 : decide ((n7 : Int) ≤ 16) = true := by rw [decide_eq_true_eq]; omega
  have HN := hide (And.intro hn hm)
  clear hn hm
  go_wp2_with fail
  refine (com_Digests _ HS4.out.ds hz7 HPS).mono ?_
  rintro e w' ⟨rfl, rfl⟩
  have kr5 := kr3
  have hb5 := hb3
  obtain ⟨FA, HFA⟩ : ∃ FA : Array Value, Hid (FA = #[.int .i64 7, .int .i64 f, .int .i64 t, .int .i64 0, .int .i64 0, .int .i64 0, .slice none 0 0, .int .i64 0, .int .i64 0, .slice none 0 0, .slice none 0 0, .int .i64 0, .int .i64 0, .slice none 0 0, .slice none 0 0, .int .i64 0, .slice none 0 0, .slice A7 n7 c7]) := ⟨_, rfl⟩
  have HFS : Hid (FA.size = 18) := by rw [Hid, HFA.out]; rfl
  have HF1 : Hid (∀ u ∈ FA.toList, u.oneCell' = true) := by rw [Hid, HFA.out]; simp [Value.oneCell']
  have kr6 : Blk w4 (w.heap.size + 1) 42 FA := by rw [HFA.out]; exact kr5
  clear kr5
  go_wp2_with (first
    | (refine wpList_load_blk rfl 42 (.tmp 4) rfl _ rfl 42 FA _ kr6 Try.underlying42 rfl (by rw [HFS.out]; exact Try.infoMsg) ?_)
    | (refine wpList_store_row rfl 42 (.tmp 4) (.tmp 103) rfl _ rfl 42 FA (.agg FA) rfl kr6 (by rw [show (Value.agg FA).cells = FA from rfl, HFS.out]; exact Try.infoMsg) rfl HF1.out ?_))
  intro w7 kr7' hg7
  have kr7 : Blk w7 (w.heap.size + 1) 42 FA := kr7'
  have hb7 : Below w.heap.size w w7 := hb5.grown hg7 hb5.size (fun g e => by injection e with e; omega)
  clear hg7 kr6 hb5 kr7'
  go_wp2_with fail
  exact bodyPost_ret (results_cell_row2 Try.results66 _ _ _ _ _ _ _ rfl kr7 Try.underlying42 rfl (by rw [HFS.out]; exact Try.infoMsg)) rfl ⟨ret_pair2 HFA.out (by rw [HR2.out] <;> (first | (simp; done) | (have := HN.out; simp; omega) | (have := HN.out; simp [this.1, this.2]))), hb7⟩
set_option maxRecDepth 100000 in
set_option maxHeartbeats 2000000 in
theorem only_8 {A1 A2 A3 A4 A5 A6 A7 : Option Addr} {n1 c1 n2 c2 n3 c3 n4 c4 n5 c5 n6 c6 n7 c7 : Nat} (n f t d ba bn ha hr ca cr cd : Int) (l : List TxD) (hbs hps cbs cps ss ds : List Int) (w : World)
    (HS0 : Hid (MsS w ⟨8, f, t, d, ⟨ba, bn, l⟩, ⟨ha, hr, hbs, hps⟩, ⟨⟨ca, cr, cbs, cps⟩, cd, ss⟩, ds⟩ ⟨⟨A1, n1, c1⟩, ⟨A2, n2, c2⟩, ⟨A3, n3, c3⟩, ⟨A4, n4, c4⟩, ⟨A5, n5, c5⟩, ⟨A6, n6, c6⟩, ⟨A7, n7, c7⟩⟩)) (HTZ : Hid (TxZ l))
    (hz1 : n1 ≤ 9223372036854775807) (hz2 : n2 ≤ 9223372036854775807) (hz3 : n3 ≤ 9223372036854775807) (hz4 : n4 ≤ 9223372036854775807) (hz5 : n5 ≤ 9223372036854775807) (hz6 : n6 ≤ 9223372036854775807) (hz7 : n7 ≤ 9223372036854775807) {r : Bool} (HR2 : Hid (r = (decide (1 ≤ n7) && (decide (n7 ≤ 16) && digs ds)))) {C : Array Value} (HC : Hid (C = #[.int .i64 8, .int .i64 f, .int .i64 t, .int .i64 d, .int .i64 ba, .int .i64 bn, .slice A1 n1 c1, .int .i64 ha, .int .i64 hr, .slice A2 n2 c2, .slice A3 n3 c3, .int .i64 ca, .int .i64 cr, .slice A4 n4 c4, .slice A5 n5 c5, .int .i64 cd, .slice A6 n6 c6, .slice A7 n7 c7])) :
    Calls Try.prog 66 #[.agg C, .int .i64 n] w fun e w' => e = .returned (.tuple #[.agg #[.int .i64 8, .int .i64 f, .int .i64 t, .int .i64 0, .int .i64 0, .int .i64 0, .slice none 0 0, .int .i64 0, .int .i64 0, .slice none 0 0, .slice none 0 0, .int .i64 0, .int .i64 0, .slice none 0 0, .slice none 0 0, .int .i64 0, .slice none 0 0, .slice A7 n7 c7], .bool r]) ∧ Below w.heap.size w w' := by
  go_enter Try.func66, Try.ntmps66
  go_upto_region 1 with fail
  have kr := Blk.new2 w (.cells C 42) 42 #[.int .i64 0, .int .i64 0, .int .i64 0, .int .i64 0, .int .i64 0, .int .i64 0, .slice none 0 0, .int .i64 0, .int .i64 0, .slice none 0 0, .slice none 0 0, .int .i64 0, .int .i64 0, .slice none 0 0, .slice none 0 0, .int .i64 0, .slice none 0 0, .slice none 0 0]
  have ka := (Blk.new w 42 C).alloc (.cells #[.int .i64 0, .int .i64 0, .int .i64 0, .int .i64 0, .int .i64 0, .int .i64 0, .slice none 0 0, .int .i64 0, .int .i64 0, .slice none 0 0, .slice none 0 0, .int .i64 0, .int .i64 0, .slice none 0 0, .slice none 0 0, .int .i64 0, .slice none 0 0, .slice none 0 0] 42)
  have hb : Below w.heap.size w ((w.alloc (.cells C 42)).alloc (.cells #[.int .i64 0, .int .i64 0, .int .i64 0, .int .i64 0, .int .i64 0, .int .i64 0, .slice none 0 0, .int .i64 0, .int .i64 0, .slice none 0 0, .slice none 0 0, .int .i64 0, .int .i64 0, .slice none 0 0, .slice none 0 0, .int .i64 0, .slice none 0 0, .slice none 0 0] 42)) := (below_alloc' w _).alloc (by simp) _
  generalize (w.alloc (.cells C 42)).alloc (.cells #[.int .i64 0, .int .i64 0, .int .i64 0, .int .i64 0, .int .i64 0, .int .i64 0, .slice none 0 0, .int .i64 0, .int .i64 0, .slice none 0 0, .slice none 0 0, .int .i64 0, .int .i64 0, .slice none 0 0, .slice none 0 0, .int .i64 0, .slice none 0 0, .slice none 0 0] 42) = w1 at ka kr hb ⊢
  have a0 : w1.cell? ⟨w.heap.size, 0, none⟩ = some (.int .i64 8) := ka.at_ (by rw [HC.out]; rfl)
  have a1 : w1.cell? ⟨w.heap.size, 1, none⟩ = some (.int .i64 f) := ka.at_ (by rw [HC.out]; rfl)
  have a2 : w1.cell? ⟨w.heap.size, 2, none⟩ = some (.int .i64 t) := ka.at_ (by rw [HC.out]; rfl)
  go_wp2_with (refine wpList_store_row rfl 42 (.tmp 4) (.tmp 12) rfl _ rfl 42 _ (.agg #[.int .i64 8, .int .i64 f, .int .i64 t, .int .i64 0, .int .i64 0, .int .i64 0, .slice none 0 0, .int .i64 0, .int .i64 0, .slice none 0 0, .slice none 0 0, .int .i64 0, .int .i64 0, .slice none 0 0, .slice none 0 0, .int .i64 0, .slice none 0 0, .slice none 0 0]) rfl kr Try.infoMsg rfl (by simp [Value.cells, Value.oneCell']) ?_)
  intro w2 kr2' hg2
  have kr2 : Blk w2 (w.heap.size + 1) 42 #[.int .i64 8, .int .i64 f, .int .i64 t, .int .i64 0, .int .i64 0, .int .i64 0, .slice none 0 0, .int .i64 0, .int .i64 0, .slice none 0 0, .slice none 0 0, .int .i64 0, .int .i64 0, .slice none 0 0, .slice none 0 0, .int .i64 0, .slice none 0 0, .slice none 0 0] := kr2'
  have hb2 : Below w.heap.size w w2 := hb.grown hg2 (by have := ka.lt; omega) (fun g e => by injection e with e; omega)
  have ka2 := ka.grown hg2 (by intro e; injection e with e; omega)
  clear ka kr hb a0 a1 a2 hg2 kr2'
  generalize (Value.agg #[.int .i64 8, .int .i64 f, .int .i64 t, .int .i64 0, .int .i64 0, .int .i64 0, .slice none 0 0, .int .i64 0, .int .i64 0, .slice none 0 0, .slice none 0 0, .int .i64 0, .int .i64 0, .slice none 0 0, .slice none 0 0, .int .i64 0, .slice none 0 0, .slice none 0 0]) = V2
  have a0 : w2.cell? ⟨w.heap.size, 0, none⟩ = some (.int .i64 8) := ka2.at_ (by rw [HC.out]; rfl)
  have a37 : w2.cell? ⟨w.heap.size, 17, none⟩ = some (.slice A7 n7 c7) := ka2.at_ (by rw [HC.out]; rfl)
  have r17 : w2.cell? ⟨w.heap.size + 1, 17, none⟩ = some (.slice none 0 0) := kr2.at_ rfl
  have f17 := kr2.frozen 17
  have KK := hide (And.intro (kr2.set_ 17 (.slice A7 n7 c7)) (And.intro (ka2.far (p := ⟨w.heap.size + 1, 17, none⟩) (by simp) (.slice A7 n7 c7)) (hb2.setCell (p := ⟨w.heap.size + 1, 17, none⟩) (by simp) (.slice A7 n7 c7))))
  clear kr2 ka2 hb2
  go_upto_region 20 with fail
  generalize w2.setCell ⟨w.heap.size + 1, 17, none⟩ (.slice A7 n7 c7) = w3 at KK ⊢
  obtain ⟨kr3, ka3, hb3⟩ := KK.out
  clear KK a0 a37 r17 f17
  obtain ⟨w4, rfl⟩ : ∃ wo : World, wo = w3 := ⟨_, rfl⟩
  have HS4 := hide (HS0.out.below hb3)
  have b17 : w4.cell? ⟨w.heap.size, 17, none⟩ = some (.slice A7 n7 c7) := ka3.at_ (by rw [HC.out]; rfl)
  obtain ⟨ps, HPS⟩ : ∃ p, Hid (digs ds = p) := ⟨_, rfl⟩
  rw [HPS.out] at HR2
  by_cases hn : 1 ≤ n7
  case neg =>
    have hd1 : decide ((1 : Int) ≤ (n7 : Int)) = false := by rw [decide_eq_false_iff_not]; omega
    have HN := hide hn
    clear hn
    have kr5 := kr3
    have hb5 := hb3
    obtain ⟨FA, HFA⟩ : ∃ FA : Array Value, Hid (FA = #[.int .i64 8, .int .i64 f, .int .i64 t, .int .i64 0, .int .i64 0, .int .i64 0, .slice none 0 0, .int .i64 0, .int .i64 0, .slice none 0 0, .slice none 0 0, .int .i64 0, .int .i64 0, .slice none 0 0, .slice none 0 0, .int .i64 0, .slice none 0 0, .slice A7 n7 c7]) := ⟨_, rfl⟩
    have HFS : Hid (FA.size = 18) := by rw [Hid, HFA.out]; rfl
    have HF1 : Hid (∀ u ∈ FA.toList, u.oneCell' = true) := by rw [Hid, HFA.out]; simp [Value.oneCell']
    have kr6 : Blk w4 (w.heap.size + 1) 42 FA := by rw [HFA.out]; exact kr5
    clear kr5
    go_wp2_with (first
      | (refine wpList_load_blk rfl 42 (.tmp 4) rfl _ rfl 42 FA _ kr6 Try.underlying42 rfl (by rw [HFS.out]; exact Try.infoMsg) ?_)
      | (refine wpList_store_row rfl 42 (.tmp 4) (.tmp 103) rfl _ rfl 42 FA (.agg FA) rfl kr6 (by rw [show (Value.agg FA).cells = FA from rfl, HFS.out]; exact Try.infoMsg) rfl HF1.out ?_))
    intro w7 kr7' hg7
    have kr7 : Blk w7 (w.heap.size + 1) 42 FA := kr7'
    have hb7 : Below w.heap.size w w7 := hb5.grown hg7 hb5.size (fun g e => by injection e with e; omega)
    clear hg7 kr6 hb5 kr7'
    go_wp2_with fail
    exact bodyPost_ret (results_cell_row2 Try.results66 _ _ _ _ _ _ _ rfl kr7 Try.underlying42 rfl (by rw [HFS.out]; exact Try.infoMsg)) rfl ⟨ret_pair2 HFA.out (by rw [HR2.out] <;> (first | (simp; done) | (have := HN.out; simp; omega) | (have := HN.out; simp [this.1, this.2]))), hb7⟩
  by_cases hm : n7 ≤ 16
  case neg =>
    have hd1 : decide ((1 : Int) ≤ (n7 : Int)) = true := by rw [decide_eq_true_eq]; omega
    have hd2 : decide ((n7 : Int) ≤ 16) = false := by rw [decide_eq_false_iff_not]; omega
    have HN := hide hm
    clear hm
    have kr5 := kr3
    have hb5 := hb3
    obtain ⟨FA, HFA⟩ : ∃ FA : Array Value, Hid (FA = #[.int .i64 8, .int .i64 f, .int .i64 t, .int .i64 0, .int .i64 0, .int .i64 0, .slice none 0 0, .int .i64 0, .int .i64 0, .slice none 0 0, .slice none 0 0, .int .i64 0, .int .i64 0, .slice none 0 0, .slice none 0 0, .int .i64 0, .slice none 0 0, .slice A7 n7 c7]) := ⟨_, rfl⟩
    have HFS : Hid (FA.size = 18) := by rw [Hid, HFA.out]; rfl
    have HF1 : Hid (∀ u ∈ FA.toList, u.oneCell' = true) := by rw [Hid, HFA.out]; simp [Value.oneCell']
    have kr6 : Blk w4 (w.heap.size + 1) 42 FA := by rw [HFA.out]; exact kr5
    clear kr5
    go_wp2_with (first
      | (refine wpList_load_blk rfl 42 (.tmp 4) rfl _ rfl 42 FA _ kr6 Try.underlying42 rfl (by rw [HFS.out]; exact Try.infoMsg) ?_)
      | (refine wpList_store_row rfl 42 (.tmp 4) (.tmp 103) rfl _ rfl 42 FA (.agg FA) rfl kr6 (by rw [show (Value.agg FA).cells = FA from rfl, HFS.out]; exact Try.infoMsg) rfl HF1.out ?_))
    intro w7 kr7' hg7
    have kr7 : Blk w7 (w.heap.size + 1) 42 FA := kr7'
    have hb7 : Below w.heap.size w w7 := hb5.grown hg7 hb5.size (fun g e => by injection e with e; omega)
    clear hg7 kr6 hb5 kr7'
    go_wp2_with fail
    exact bodyPost_ret (results_cell_row2 Try.results66 _ _ _ _ _ _ _ rfl kr7 Try.underlying42 rfl (by rw [HFS.out]; exact Try.infoMsg)) rfl ⟨ret_pair2 HFA.out (by rw [HR2.out] <;> (first | (simp; done) | (have := HN.out; simp; omega) | (have := HN.out; simp [this.1, this.2]))), hb7⟩
  have hd1 : decide ((1 : Int) ≤ (n7 : Int)) = true := by rw [decide_eq_true_eq]; omega
  have hd2 : decide ((n7 : Int) ≤ 16) = true := by rw [decide_eq_true_eq]; omega
  have HN := hide (And.intro hn hm)
  clear hn hm
  go_wp2_with fail
  refine (com_Digests _ HS4.out.ds hz7 HPS).mono ?_
  rintro e w' ⟨rfl, rfl⟩
  have kr5 := kr3
  have hb5 := hb3
  obtain ⟨FA, HFA⟩ : ∃ FA : Array Value, Hid (FA = #[.int .i64 8, .int .i64 f, .int .i64 t, .int .i64 0, .int .i64 0, .int .i64 0, .slice none 0 0, .int .i64 0, .int .i64 0, .slice none 0 0, .slice none 0 0, .int .i64 0, .int .i64 0, .slice none 0 0, .slice none 0 0, .int .i64 0, .slice none 0 0, .slice A7 n7 c7]) := ⟨_, rfl⟩
  have HFS : Hid (FA.size = 18) := by rw [Hid, HFA.out]; rfl
  have HF1 : Hid (∀ u ∈ FA.toList, u.oneCell' = true) := by rw [Hid, HFA.out]; simp [Value.oneCell']
  have kr6 : Blk w4 (w.heap.size + 1) 42 FA := by rw [HFA.out]; exact kr5
  clear kr5
  go_wp2_with (first
    | (refine wpList_load_blk rfl 42 (.tmp 4) rfl _ rfl 42 FA _ kr6 Try.underlying42 rfl (by rw [HFS.out]; exact Try.infoMsg) ?_)
    | (refine wpList_store_row rfl 42 (.tmp 4) (.tmp 103) rfl _ rfl 42 FA (.agg FA) rfl kr6 (by rw [show (Value.agg FA).cells = FA from rfl, HFS.out]; exact Try.infoMsg) rfl HF1.out ?_))
  intro w7 kr7' hg7
  have kr7 : Blk w7 (w.heap.size + 1) 42 FA := kr7'
  have hb7 : Below w.heap.size w w7 := hb5.grown hg7 hb5.size (fun g e => by injection e with e; omega)
  clear hg7 kr6 hb5 kr7'
  go_wp2_with fail
  exact bodyPost_ret (results_cell_row2 Try.results66 _ _ _ _ _ _ _ rfl kr7 Try.underlying42 rfl (by rw [HFS.out]; exact Try.infoMsg)) rfl ⟨ret_pair2 HFA.out (by rw [HR2.out] <;> (first | (simp; done) | (have := HN.out; simp; omega) | (have := HN.out; simp [this.1, this.2]))), hb7⟩
set_option maxRecDepth 100000 in
set_option maxHeartbeats 2000000 in
theorem only_x {A1 A2 A3 A4 A5 A6 A7 : Option Addr} {n1 c1 n2 c2 n3 c3 n4 c4 n5 c5 n6 c6 n7 c7 : Nat} (n k f t d ba bn ha hr ca cr cd : Int) (l : List TxD) (hbs hps cbs cps ss ds : List Int) (w : World)
    (HS0 : Hid (MsS w ⟨k, f, t, d, ⟨ba, bn, l⟩, ⟨ha, hr, hbs, hps⟩, ⟨⟨ca, cr, cbs, cps⟩, cd, ss⟩, ds⟩ ⟨⟨A1, n1, c1⟩, ⟨A2, n2, c2⟩, ⟨A3, n3, c3⟩, ⟨A4, n4, c4⟩, ⟨A5, n5, c5⟩, ⟨A6, n6, c6⟩, ⟨A7, n7, c7⟩⟩)) (HTZ : Hid (TxZ l))
    (hz1 : n1 ≤ 9223372036854775807) (hz2 : n2 ≤ 9223372036854775807) (hz3 : n3 ≤ 9223372036854775807) (hz4 : n4 ≤ 9223372036854775807) (hz5 : n5 ≤ 9223372036854775807) (hz6 : n6 ≤ 9223372036854775807) (hz7 : n7 ≤ 9223372036854775807) {r : Bool} (HR2 : Hid (r = (false))) (h1 : k ≠ 1) (h2 : k ≠ 2) (h3 : k ≠ 3) (h4 : k ≠ 4) (h5 : k ≠ 5) (h6 : k ≠ 6) (h7 : k ≠ 7) (h8 : k ≠ 8) {C : Array Value} (HC : Hid (C = #[.int .i64 k, .int .i64 f, .int .i64 t, .int .i64 d, .int .i64 ba, .int .i64 bn, .slice A1 n1 c1, .int .i64 ha, .int .i64 hr, .slice A2 n2 c2, .slice A3 n3 c3, .int .i64 ca, .int .i64 cr, .slice A4 n4 c4, .slice A5 n5 c5, .int .i64 cd, .slice A6 n6 c6, .slice A7 n7 c7])) :
    Calls Try.prog 66 #[.agg C, .int .i64 n] w fun e w' => e = .returned (.tuple #[.agg #[.int .i64 k, .int .i64 f, .int .i64 t, .int .i64 0, .int .i64 0, .int .i64 0, .slice none 0 0, .int .i64 0, .int .i64 0, .slice none 0 0, .slice none 0 0, .int .i64 0, .int .i64 0, .slice none 0 0, .slice none 0 0, .int .i64 0, .slice none 0 0, .slice none 0 0], .bool r]) ∧ Below w.heap.size w w' := by
  have g1 : (k == 1) = false := by simpa using h1
  have g2 : (k == 2) = false := by simpa using h2
  have g3 : (k == 3) = false := by simpa using h3
  have g4 : (k == 4) = false := by simpa using h4
  have g5 : (k == 5) = false := by simpa using h5
  have g6 : (k == 6) = false := by simpa using h6
  have g7 : (k == 7) = false := by simpa using h7
  have g8 : (k == 8) = false := by simpa using h8
  clear h1 h2 h3 h4 h5 h6 h7 h8
  go_enter Try.func66, Try.ntmps66
  go_upto_region 1 with fail
  have kr := Blk.new2 w (.cells C 42) 42 #[.int .i64 0, .int .i64 0, .int .i64 0, .int .i64 0, .int .i64 0, .int .i64 0, .slice none 0 0, .int .i64 0, .int .i64 0, .slice none 0 0, .slice none 0 0, .int .i64 0, .int .i64 0, .slice none 0 0, .slice none 0 0, .int .i64 0, .slice none 0 0, .slice none 0 0]
  have ka := (Blk.new w 42 C).alloc (.cells #[.int .i64 0, .int .i64 0, .int .i64 0, .int .i64 0, .int .i64 0, .int .i64 0, .slice none 0 0, .int .i64 0, .int .i64 0, .slice none 0 0, .slice none 0 0, .int .i64 0, .int .i64 0, .slice none 0 0, .slice none 0 0, .int .i64 0, .slice none 0 0, .slice none 0 0] 42)
  have hb : Below w.heap.size w ((w.alloc (.cells C 42)).alloc (.cells #[.int .i64 0, .int .i64 0, .int .i64 0, .int .i64 0, .int .i64 0, .int .i64 0, .slice none 0 0, .int .i64 0, .int .i64 0, .slice none 0 0, .slice none 0 0, .int .i64 0, .int .i64 0, .slice none 0 0, .slice none 0 0, .int .i64 0, .slice none 0 0, .slice none 0 0] 42)) := (below_alloc' w _).alloc (by simp) _
  generalize (w.alloc (.cells C 42)).alloc (.cells #[.int .i64 0, .int .i64 0, .int .i64 0, .int .i64 0, .int .i64 0, .int .i64 0, .slice none 0 0, .int .i64 0, .int .i64 0, .slice none 0 0, .slice none 0 0, .int .i64 0, .int .i64 0, .slice none 0 0, .slice none 0 0, .int .i64 0, .slice none 0 0, .slice none 0 0] 42) = w1 at ka kr hb ⊢
  have a0 : w1.cell? ⟨w.heap.size, 0, none⟩ = some (.int .i64 k) := ka.at_ (by rw [HC.out]; rfl)
  have a1 : w1.cell? ⟨w.heap.size, 1, none⟩ = some (.int .i64 f) := ka.at_ (by rw [HC.out]; rfl)
  have a2 : w1.cell? ⟨w.heap.size, 2, none⟩ = some (.int .i64 t) := ka.at_ (by rw [HC.out]; rfl)
  go_wp2_with (refine wpList_store_row rfl 42 (.tmp 4) (.tmp 12) rfl _ rfl 42 _ (.agg #[.int .i64 k, .int .i64 f, .int .i64 t, .int .i64 0, .int .i64 0, .int .i64 0, .slice none 0 0, .int .i64 0, .int .i64 0, .slice none 0 0, .slice none 0 0, .int .i64 0, .int .i64 0, .slice none 0 0, .slice none 0 0, .int .i64 0, .slice none 0 0, .slice none 0 0]) rfl kr Try.infoMsg rfl (by simp [Value.cells, Value.oneCell']) ?_)
  intro w2 kr2' hg2
  have kr2 : Blk w2 (w.heap.size + 1) 42 #[.int .i64 k, .int .i64 f, .int .i64 t, .int .i64 0, .int .i64 0, .int .i64 0, .slice none 0 0, .int .i64 0, .int .i64 0, .slice none 0 0, .slice none 0 0, .int .i64 0, .int .i64 0, .slice none 0 0, .slice none 0 0, .int .i64 0, .slice none 0 0, .slice none 0 0] := kr2'
  have hb2 : Below w.heap.size w w2 := hb.grown hg2 (by have := ka.lt; omega) (fun g e => by injection e with e; omega)
  have ka2 := ka.grown hg2 (by intro e; injection e with e; omega)
  clear ka kr hb a0 a1 a2 hg2 kr2'
  generalize (Value.agg #[.int .i64 k, .int .i64 f, .int .i64 t, .int .i64 0, .int .i64 0, .int .i64 0, .slice none 0 0, .int .i64 0, .int .i64 0, .slice none 0 0, .slice none 0 0, .int .i64 0, .int .i64 0, .slice none 0 0, .slice none 0 0, .int .i64 0, .slice none 0 0, .slice none 0 0]) = V2
  have a0 : w2.cell? ⟨w.heap.size, 0, none⟩ = some (.int .i64 k) := ka2.at_ (by rw [HC.out]; rfl)
  have kr5 := kr2
  have hb5 := hb2
  clear ka2 kr2 hb2
  obtain ⟨FA, HFA⟩ : ∃ FA : Array Value, Hid (FA = #[.int .i64 k, .int .i64 f, .int .i64 t, .int .i64 0, .int .i64 0, .int .i64 0, .slice none 0 0, .int .i64 0, .int .i64 0, .slice none 0 0, .slice none 0 0, .int .i64 0, .int .i64 0, .slice none 0 0, .slice none 0 0, .int .i64 0, .slice none 0 0, .slice none 0 0]) := ⟨_, rfl⟩
  have HFS : Hid (FA.size = 18) := by rw [Hid, HFA.out]; rfl
  have HF1 : Hid (∀ u ∈ FA.toList, u.oneCell' = true) := by rw [Hid, HFA.out]; simp [Value.oneCell']
  have kr6 : Blk w2 (w.heap.size + 1) 42 FA := by rw [HFA.out]; exact kr5
  clear kr5
  go_wp2_with (first
    | (refine wpList_load_blk rfl 42 (.tmp 4) rfl _ rfl 42 FA _ kr6 Try.underlying42 rfl (by rw [HFS.out]; exact Try.infoMsg) ?_)
    | (refine wpList_store_row rfl 42 (.tmp 4) (.tmp 103) rfl _ rfl 42 FA (.agg FA) rfl kr6 (by rw [show (Value.agg FA).cells = FA from rfl, HFS.out]; exact Try.infoMsg) rfl HF1.out ?_))
  intro w7 kr7' hg7
  have kr7 : Blk w7 (w.heap.size + 1) 42 FA := kr7'
  have hb7 : Below w.heap.size w w7 := hb5.grown hg7 hb5.size (fun g e => by injection e with e; omega)
  clear hg7 kr6 hb5 kr7'
  go_wp2_with fail
  exact bodyPost_ret (results_cell_row2 Try.results66 _ _ _ _ _ _ _ rfl kr7 Try.underlying42 rfl (by rw [HFS.out]; exact Try.infoMsg)) rfl ⟨ret_pair2 HFA.out (by rw [HR2.out] <;> (rfl)), hb7⟩
end Go.Proofs.Ytebaojcfmkobjaa
