/-
  Contracts: droverref4.Message, kinds 5, 6, 7, 8.
-/
import Derived.Test.YtebaojcfmkobjaaMsgO
import Derived.Test.YtebaojcfmkobjaaMsgYz
import Derived.Test.YtebaojcfmkobjaaMsgT
import Derived.Test.YtebaojcfmkobjaaGr00
import Derived.Test.YtebaojcfmkobjaaGr10
import Derived.Test.YtebaojcfmkobjaaHdrS
import Derived.Test.YtebaojcfmkobjaaGr04
set_option linter.unusedVariables false
set_option linter.unusedSimpArgs false
namespace Go.Proofs.Ytebaojcfmkobjaa
open Go.RowKit

set_option maxRecDepth 100000 in
set_option maxHeartbeats 4000000 in
theorem refM_5 {A1 A2 A3 A4 A5 A6 A7 : Option Addr} {n1 c1 n2 c2 n3 c3 n4 c4 n5 c5 n6 c6 n7 c7 : Nat} (n f t d ba bn ha hr ca cr cd : Int) (l : List TxD) (hbs hps cbs cps ss ds : List Int) (w : World)
    (HS0 : Hid (MsS w ⟨5, f, t, d, ⟨ba, bn, l⟩, ⟨ha, hr, hbs, hps⟩, ⟨⟨ca, cr, cbs, cps⟩, cd, ss⟩, ds⟩ ⟨⟨A1, n1, c1⟩, ⟨A2, n2, c2⟩, ⟨A3, n3, c3⟩, ⟨A4, n4, c4⟩, ⟨A5, n5, c5⟩, ⟨A6, n6, c6⟩, ⟨A7, n7, c7⟩⟩)) (HZ0 : Hid (MsZ ⟨5, f, t, d, ⟨ba, bn, l⟩, ⟨ha, hr, hbs, hps⟩, ⟨⟨ca, cr, cbs, cps⟩, cd, ss⟩, ds⟩ ⟨⟨A1, n1, c1⟩, ⟨A2, n2, c2⟩, ⟨A3, n3, c3⟩, ⟨A4, n4, c4⟩, ⟨A5, n5, c5⟩, ⟨A6, n6, c6⟩, ⟨A7, n7, c7⟩⟩)) (HTZ : Hid (TxZ l))
    (hz1 : n1 ≤ 9223372036854775807) (hz2 : n2 ≤ 9223372036854775807) (hz3 : n3 ≤ 9223372036854775807) (hz4 : n4 ≤ 9223372036854775807) (hz5 : n5 ≤ 9223372036854775807) (hz6 : n6 ≤ 9223372036854775807) (hz7 : n7 ≤ 9223372036854775807) (HP : Hid (pairM n ⟨5, f, t, d, ⟨ba, bn, l⟩, ⟨ha, hr, hbs, hps⟩, ⟨⟨ca, cr, cbs, cps⟩, cd, ss⟩, ds⟩ = true)) {q r : Bool} (HQ : Hid (decide (onlyM ⟨5, f, t, d, ⟨ba, bn, l⟩, ⟨ha, hr, hbs, hps⟩, ⟨⟨ca, cr, cbs, cps⟩, cd, ss⟩, ds⟩ = ⟨5, f, t, d, ⟨ba, bn, l⟩, ⟨ha, hr, hbs, hps⟩, ⟨⟨ca, cr, cbs, cps⟩, cd, ss⟩, ds⟩) = q)) (HR2 : Hid (r = (digO d && q))) {C : Array Value} (HC : Hid (C = #[.int .i64 5, .int .i64 f, .int .i64 t, .int .i64 d, .int .i64 ba, .int .i64 bn, .slice A1 n1 c1, .int .i64 ha, .int .i64 hr, .slice A2 n2 c2, .slice A3 n3 c3, .int .i64 ca, .int .i64 cr, .slice A4 n4 c4, .slice A5 n5 c5, .int .i64 cd, .slice A6 n6 c6, .slice A7 n7 c7])) :
    Calls Try.prog 29 #[.agg C, .int .i64 n] w fun e w' => e = .returned (.bool r) ∧ Below w.heap.size w w' := by
  obtain ⟨hI, ⟨hf1, hf2⟩, ⟨ht1, ht2⟩, hft⟩ := pairM_iff.1 HP.out
  simp only at hf1 hf2 ht1 ht2 hft
  have HI : Hid (isC n = true) := hI
  have e5 : (f == t) = false := by simpa using hft
  have e1 : decide (f < 1) = false := by rw [decide_eq_false_iff_not]; omega
  have e2 : decide (n < f) = false := by rw [decide_eq_false_iff_not]; omega
  have e3 : decide (t < 1) = false := by rw [decide_eq_false_iff_not]; omega
  have e4 : decide (n < t) = false := by rw [decide_eq_false_iff_not]; omega
  have HFT := hide (And.intro (And.intro hf1 hf2) (And.intro (And.intro ht1 ht2) hft))
  clear HP hf1 hf2 ht1 ht2 hft hI
  go_enter Try.func29, Try.ntmps29
  go_upto_region 1 with fail
  have ka := Blk.new w 42 C
  have hb := below_alloc' w (.cells C 42)
  generalize w.alloc (.cells C 42) = w1 at ka hb ⊢
  have kr := Blk.new w1 42 #[.int .i64 0, .int .i64 0, .int .i64 0, .int .i64 0, .int .i64 0, .int .i64 0, .slice none 0 0, .int .i64 0, .int .i64 0, .slice none 0 0, .slice none 0 0, .int .i64 0, .int .i64 0, .slice none 0 0, .slice none 0 0, .int .i64 0, .slice none 0 0, .slice none 0 0]
  have ka' := ka.alloc (.cells #[.int .i64 0, .int .i64 0, .int .i64 0, .int .i64 0, .int .i64 0, .int .i64 0, .slice none 0 0, .int .i64 0, .int .i64 0, .slice none 0 0, .slice none 0 0, .int .i64 0, .int .i64 0, .slice none 0 0, .slice none 0 0, .int .i64 0, .slice none 0 0, .slice none 0 0] 42)
  have hb' := hb.alloc hb.size (.cells #[.int .i64 0, .int .i64 0, .int .i64 0, .int .i64 0, .int .i64 0, .int .i64 0, .slice none 0 0, .int .i64 0, .int .i64 0, .slice none 0 0, .slice none 0 0, .int .i64 0, .int .i64 0, .slice none 0 0, .slice none 0 0, .int .i64 0, .slice none 0 0, .slice none 0 0] 42)
  have HG : Hid (w.heap.size < w1.heap.size) := ka.lt
  have a0 : w1.cell? ⟨w.heap.size, 0, none⟩ = some (.int .i64 5) := ka.at_ (by rw [HC.out]; rfl)
  have a1 : w1.cell? ⟨w.heap.size, 1, none⟩ = some (.int .i64 f) := ka.at_ (by rw [HC.out]; rfl)
  have a2 : w1.cell? ⟨w.heap.size, 2, none⟩ = some (.int .i64 t) := ka.at_ (by rw [HC.out]; rfl)
  go_wp2_with (refine wpList_store_row rfl 42 (.tmp 5) (.tmp 13) rfl _ rfl 42 _ (.agg #[.int .i64 5, .int .i64 f, .int .i64 t, .int .i64 0, .int .i64 0, .int .i64 0, .slice none 0 0, .int .i64 0, .int .i64 0, .slice none 0 0, .slice none 0 0, .int .i64 0, .int .i64 0, .slice none 0 0, .slice none 0 0, .int .i64 0, .slice none 0 0, .slice none 0 0]) rfl kr Try.infoMsg rfl (by simp [Value.cells, Value.oneCell']) ?_)
  intro w2 kr2' hg2
  have kr2 : Blk w2 w1.heap.size 42 #[.int .i64 5, .int .i64 f, .int .i64 t, .int .i64 0, .int .i64 0, .int .i64 0, .slice none 0 0, .int .i64 0, .int .i64 0, .slice none 0 0, .slice none 0 0, .int .i64 0, .int .i64 0, .slice none 0 0, .slice none 0 0, .int .i64 0, .slice none 0 0, .slice none 0 0] := kr2'
  have hb2 : Below w.heap.size w w2 := hb'.grown hg2 hb'.size (fun g e => by injection e with e; have := HG.out; omega)
  have ka2 := ka'.grown hg2 (by intro e; injection e with e; have := HG.out; omega)
  clear ka kr hb ka' hb' a0 a1 a2 hg2 kr2'
  generalize (Value.agg #[.int .i64 5, .int .i64 f, .int .i64 t, .int .i64 0, .int .i64 0, .int .i64 0, .slice none 0 0, .int .i64 0, .int .i64 0, .slice none 0 0, .slice none 0 0, .int .i64 0, .int .i64 0, .slice none 0 0, .slice none 0 0, .int .i64 0, .slice none 0 0, .slice none 0 0]) = V2
  generalize w1.heap.size = g5 at kr2 ka2 HG ⊢
  have a0 : w2.cell? ⟨w.heap.size, 0, none⟩ = some (.int .i64 5) := ka2.at_ (by rw [HC.out]; rfl)
  have a1 : w2.cell? ⟨w.heap.size, 1, none⟩ = some (.int .i64 f) := ka2.at_ (by rw [HC.out]; rfl)
  have a2 : w2.cell? ⟨w.heap.size, 2, none⟩ = some (.int .i64 t) := ka2.at_ (by rw [HC.out]; rfl)
  go_wp2_with fail
  refine (ref2_May n _).mono ?_
  rintro e w' ⟨rfl, rfl⟩
  rw [HI.out]
  have a23 : w2.cell? ⟨w.heap.size, 3, none⟩ = some (.int .i64 d) := ka2.at_ (by rw [HC.out]; rfl)
  have r3 : w2.cell? ⟨g5, 3, none⟩ = some (.int .i64 0) := kr2.at_ rfl
  have f3 := kr2.frozen 3
  have KK := hide (And.intro (kr2.set_ 3 (.int .i64 d)) (And.intro (ka2.far (p := ⟨g5, 3, none⟩) (by have := HG.out; intro e; simp only at e; omega) (.int .i64 d)) (hb2.setCell (p := ⟨g5, 3, none⟩) (by have := HG.out; show w.heap.size ≤ g5; omega) (.int .i64 d))))
  clear kr2 ka2 hb2
  go_upto_region 13 with fail
  clear e1 e2 e3 e4 e5 a1 a2
  generalize w2.setCell ⟨g5, 3, none⟩ (.int .i64 d) = w3 at KK ⊢
  obtain ⟨kr3, ka3, hb3⟩ := KK.out
  clear KK a0 a23 r3 f3
  obtain ⟨w4, rfl⟩ : ∃ wo : World, wo = w3 := ⟨_, rfl⟩
  have HS4 := hide (HS0.out.below hb3)
  have b3 : w4.cell? ⟨w.heap.size, 3, none⟩ = some (.int .i64 d) := ka3.at_ (by rw [HC.out]; rfl)
  obtain ⟨pd, HD⟩ : ∃ p, Hid (digO d = p) := ⟨_, rfl⟩
  rw [HD.out] at HR2
  go_wp2_with fail
  refine (ref0_Digest d _).mono ?_
  rintro e w' ⟨rfl, rfl⟩
  rw [HD.out]
  have kr5 := kr3
  have ka5 := ka3
  have hb5 := hb3
  obtain ⟨FA, HFA⟩ : ∃ FA : Array Value, Hid (FA = #[.int .i64 5, .int .i64 f, .int .i64 t, .int .i64 d, .int .i64 0, .int .i64 0, .slice none 0 0, .int .i64 0, .int .i64 0, .slice none 0 0, .slice none 0 0, .int .i64 0, .int .i64 0, .slice none 0 0, .slice none 0 0, .int .i64 0, .slice none 0 0, .slice none 0 0]) := ⟨_, rfl⟩
  have HFS : Hid (FA.size = 18) := by rw [Hid, HFA.out]; rfl
  have HCS : Hid (C.size = 18) := by rw [Hid, HC.out]; rfl
  have kr6 : Blk w4 g5 42 FA := by rw [HFA.out]; exact kr5
  clear kr5
  obtain ⟨pk, HPK⟩ : ∃ p : Bool, Hid (p = pd) := ⟨_, rfl⟩
  go_upto_region 24 with fail
  refine wp_region_lit ?_
  refine frame_off 136 [(2, .pointer (some ⟨w.heap.size, 0, none⟩)), (5, .pointer (some ⟨g5, 0, none⟩)), (6, .bool pk)] (Frm.start rfl (by intro p hp; simp only [List.mem_cons, List.not_mem_nil, or_false] at hp; rcases hp with rfl | rfl | rfl <;> first | rfl | simp [HPK.out])) (fun a hM => ?_)
  refine seg_cut7 (fun a' w' => Frm a' 136 [(4, .bool (if pk then q else false))] ∧ Hid (Below w.heap.size w w')) (fun K hK => ?_) (fun a' w' hS => ?_)
  · refine seg_move hM rfl (by omega) rfl (.inl rfl) rfl (fun a hM => ?_)
    refine seg_move hM rfl (by omega) rfl (.inl rfl) rfl (fun a hM => ?_)
    cases pk with
    | false =>
      refine seg_skip hM rfl (by omega) rfl rfl rfl rfl (fun a hM => ?_)
      refine seg_skip hM rfl (by omega) rfl rfl rfl rfl (fun a hM => ?_)
      refine seg_skip hM rfl (by omega) rfl rfl rfl rfl (fun a hM => ?_)
      refine seg_pick hM rfl (by omega) rfl rfl rfl rfl (fun a hM => ?_)
      refine seg_move hM rfl (by omega) rfl (.inr rfl) rfl (fun a hM => ?_)
      exact seg_nil (hK _ _ ⟨hM.weak (by intro p hp; simp only [List.mem_cons, List.not_mem_nil, or_false] at hp; subst hp; rfl), hide hb5⟩)
    | true =>
      refine seg_same hM rfl (by omega) rfl rfl rfl (v := .agg FA) (run_load_blk rfl g5 (hM.ev (t := 5) rfl) 42 FA _ kr6 Try.underlying42 rfl (by rw [HFS.out]; exact Try.infoMsg)) (fun a hM => ?_)
      refine seg_same hM rfl (by omega) rfl rfl rfl (v := .agg C) (run_load_blk rfl w.heap.size (hM.ev (t := 2) rfl) 42 C _ ka5 Try.underlying42 rfl (by rw [HCS.out]; exact Try.infoMsg)) (fun a hM => ?_)
      refine seg_callg hM rfl (by omega) rfl rfl rfl (f := 25) (args := #[.agg FA, .agg C]) (by simp only [execOp, resolve, List.map_toArray, List.map_cons, List.map_nil, hM.ev (t := 132) (v := .agg FA) rfl, hM.ev (t := 133) (v := .agg C) rfl]; simp [go_sem, Act.eval]) (ref0_EqMessage (onlyM ⟨5, f, t, d, ⟨ba, bn, l⟩, ⟨ha, hr, hbs, hps⟩, ⟨⟨ca, cr, cbs, cps⟩, cd, ss⟩, ds⟩) ⟨5, f, t, d, ⟨ba, bn, l⟩, ⟨ha, hr, hbs, hps⟩, ⟨⟨ca, cr, cbs, cps⟩, cd, ss⟩, ds⟩ (onlyV 5 ⟨⟨A1, n1, c1⟩, ⟨A2, n2, c2⟩, ⟨A3, n3, c3⟩, ⟨A4, n4, c4⟩, ⟨A5, n5, c5⟩, ⟨A6, n6, c6⟩, ⟨A7, n7, c7⟩⟩) ⟨⟨A1, n1, c1⟩, ⟨A2, n2, c2⟩, ⟨A3, n3, c3⟩, ⟨A4, n4, c4⟩, ⟨A5, n5, c5⟩, ⟨A6, n6, c6⟩, ⟨A7, n7, c7⟩⟩ _ (hide (HS0.out.only.below hb5)) (hide HZ0.out.only) (hide (HS0.out.below hb5)) HZ0 (by rw [Hid, HFA.out]; simp [msC, onlyM, onlyV, hasB, hasD, hasH, hasC, hasS, zB, zH, zC, nilV, SlV.v]) (by rw [Hid, HC.out]; rfl) HQ) (fun a wd hM hbd => ?_)
      refine seg_pick hM rfl (by omega) rfl rfl rfl rfl (fun a hM => ?_)
      refine seg_move hM rfl (by omega) rfl (.inr rfl) rfl (fun a hM => ?_)
      exact seg_nil (hK _ _ ⟨hM.weak (by intro p hp; simp only [List.mem_cons, List.not_mem_nil, or_false] at hp; subst hp; rfl), hide (below_then hb5 hbd)⟩)
  obtain ⟨hM, HBE⟩ := hS
  refine wpList_nil ?_
  simp only [Exit.then]
  go_step
  apply wp_ret
  refine bodyPost_ret (results_tmp rfl _ _ _) hM.2.1 ?_
  rw [show a'.tmps.getD 4 undef = .bool (if pk then q else false) from hM.ev (t := 4) rfl]
  exact ⟨ret_bool (by rw [HR2.out, ← HPK.out]; cases pk <;> rfl), HBE.out⟩
set_option maxRecDepth 100000 in
set_option maxHeartbeats 4000000 in
theorem refM_6 {A1 A2 A3 A4 A5 A6 A7 : Option Addr} {n1 c1 n2 c2 n3 c3 n4 c4 n5 c5 n6 c6 n7 c7 : Nat} (n f t d ba bn ha hr ca cr cd : Int) (l : List TxD) (hbs hps cbs cps ss ds : List Int) (w : World)
    (HS0 : Hid (MsS w ⟨6, f, t, d, ⟨ba, bn, l⟩, ⟨ha, hr, hbs, hps⟩, ⟨⟨ca, cr, cbs, cps⟩, cd, ss⟩, ds⟩ ⟨⟨A1, n1, c1⟩, ⟨A2, n2, c2⟩, ⟨A3, n3, c3⟩, ⟨A4, n4, c4⟩, ⟨A5, n5, c5⟩, ⟨A6, n6, c6⟩, ⟨A7, n7, c7⟩⟩)) (HZ0 : Hid (MsZ ⟨6, f, t, d, ⟨ba, bn, l⟩, ⟨ha, hr, hbs, hps⟩, ⟨⟨ca, cr, cbs, cps⟩, cd, ss⟩, ds⟩ ⟨⟨A1, n1, c1⟩, ⟨A2, n2, c2⟩, ⟨A3, n3, c3⟩, ⟨A4, n4, c4⟩, ⟨A5, n5, c5⟩, ⟨A6, n6, c6⟩, ⟨A7, n7, c7⟩⟩)) (HTZ : Hid (TxZ l))
    (hz1 : n1 ≤ 9223372036854775807) (hz2 : n2 ≤ 9223372036854775807) (hz3 : n3 ≤ 9223372036854775807) (hz4 : n4 ≤ 9223372036854775807) (hz5 : n5 ≤ 9223372036854775807) (hz6 : n6 ≤ 9223372036854775807) (hz7 : n7 ≤ 9223372036854775807) (HP : Hid (pairM n ⟨6, f, t, d, ⟨ba, bn, l⟩, ⟨ha, hr, hbs, hps⟩, ⟨⟨ca, cr, cbs, cps⟩, cd, ss⟩, ds⟩ = true)) {q r : Bool} (HQ : Hid (decide (onlyM ⟨6, f, t, d, ⟨ba, bn, l⟩, ⟨ha, hr, hbs, hps⟩, ⟨⟨ca, cr, cbs, cps⟩, cd, ss⟩, ds⟩ = ⟨6, f, t, d, ⟨ba, bn, l⟩, ⟨ha, hr, hbs, hps⟩, ⟨⟨ca, cr, cbs, cps⟩, cd, ss⟩, ds⟩) = q)) (HR2 : Hid (r = (mayC n ⟨⟨ca, cr, cbs, cps⟩, cd, ss⟩ && q))) {C : Array Value} (HC : Hid (C = #[.int .i64 6, .int .i64 f, .int .i64 t, .int .i64 d, .int .i64 ba, .int .i64 bn, .slice A1 n1 c1, .int .i64 ha, .int .i64 hr, .slice A2 n2 c2, .slice A3 n3 c3, .int .i64 ca, .int .i64 cr, .slice A4 n4 c4, .slice A5 n5 c5, .int .i64 cd, .slice A6 n6 c6, .slice A7 n7 c7])) :
    Calls Try.prog 29 #[.agg C, .int .i64 n] w fun e w' => e = .returned (.bool r) ∧ Below w.heap.size w w' := by
  obtain ⟨hI, ⟨hf1, hf2⟩, ⟨ht1, ht2⟩, hft⟩ := pairM_iff.1 HP.out
  simp only at hf1 hf2 ht1 ht2 hft
  have HI : Hid (isC n = true) := hI
  have e5 : (f == t) = false := by simpa using hft
  have e1 : decide (f < 1) = false := by rw [decide_eq_false_iff_not]; omega
  have e2 : decide (n < f) = false := by rw [decide_eq_false_iff_not]; omega
  have e3 : decide (t < 1) = false := by rw [decide_eq_false_iff_not]; omega
  have e4 : decide (n < t) = false := by rw [decide_eq_false_iff_not]; omega
  have HFT := hide (And.intro (And.intro hf1 hf2) (And.intro (And.intro ht1 ht2) hft))
  clear HP hf1 hf2 ht1 ht2 hft hI
  go_enter Try.func29, Try.ntmps29
  go_upto_region 1 with fail
  have ka := Blk.new w 42 C
  have hb := below_alloc' w (.cells C 42)
  generalize w.alloc (.cells C 42) = w1 at ka hb ⊢
  have kr := Blk.new w1 42 #[.int .i64 0, .int .i64 0, .int .i64 0, .int .i64 0, .int .i64 0, .int .i64 0, .slice none 0 0, .int .i64 0, .int .i64 0, .slice none 0 0, .slice none 0 0, .int .i64 0, .int .i64 0, .slice none 0 0, .slice none 0 0, .int .i64 0, .slice none 0 0, .slice none 0 0]
  have ka' := ka.alloc (.cells #[.int .i64 0, .int .i64 0, .int .i64 0, .int .i64 0, .int .i64 0, .int .i64 0, .slice none 0 0, .int .i64 0, .int .i64 0, .slice none 0 0, .slice none 0 0, .int .i64 0, .int .i64 0, .slice none 0 0, .slice none 0 0, .int .i64 0, .slice none 0 0, .slice none 0 0] 42)
  have hb' := hb.alloc hb.size (.cells #[.int .i64 0, .int .i64 0, .int .i64 0, .int .i64 0, .int .i64 0, .int .i64 0, .slice none 0 0, .int .i64 0, .int .i64 0, .slice none 0 0, .slice none 0 0, .int .i64 0, .int .i64 0, .slice none 0 0, .slice none 0 0, .int .i64 0, .slice none 0 0, .slice none 0 0] 42)
  have HG : Hid (w.heap.size < w1.heap.size) := ka.lt
  have a0 : w1.cell? ⟨w.heap.size, 0, none⟩ = some (.int .i64 6) := ka.at_ (by rw [HC.out]; rfl)
  have a1 : w1.cell? ⟨w.heap.size, 1, none⟩ = some (.int .i64 f) := ka.at_ (by rw [HC.out]; rfl)
  have a2 : w1.cell? ⟨w.heap.size, 2, none⟩ = some (.int .i64 t) := ka.at_ (by rw [HC.out]; rfl)
  go_wp2_with (refine wpList_store_row rfl 42 (.tmp 5) (.tmp 13) rfl _ rfl 42 _ (.agg #[.int .i64 6, .int .i64 f, .int .i64 t, .int .i64 0, .int .i64 0, .int .i64 0, .slice none 0 0, .int .i64 0, .int .i64 0, .slice none 0 0, .slice none 0 0, .int .i64 0, .int .i64 0, .slice none 0 0, .slice none 0 0, .int .i64 0, .slice none 0 0, .slice none 0 0]) rfl kr Try.infoMsg rfl (by simp [Value.cells, Value.oneCell']) ?_)
  intro w2 kr2' hg2
  have kr2 : Blk w2 w1.heap.size 42 #[.int .i64 6, .int .i64 f, .int .i64 t, .int .i64 0, .int .i64 0, .int .i64 0, .slice none 0 0, .int .i64 0, .int .i64 0, .slice none 0 0, .slice none 0 0, .int .i64 0, .int .i64 0, .slice none 0 0, .slice none 0 0, .int .i64 0, .slice none 0 0, .slice none 0 0] := kr2'
  have hb2 : Below w.heap.size w w2 := hb'.grown hg2 hb'.size (fun g e => by injection e with e; have := HG.out; omega)
  have ka2 := ka'.grown hg2 (by intro e; injection e with e; have := HG.out; omega)
  clear ka kr hb ka' hb' a0 a1 a2 hg2 kr2'
  generalize (Value.agg #[.int .i64 6, .int .i64 f, .int .i64 t, .int .i64 0, .int .i64 0, .int .i64 0, .slice none 0 0, .int .i64 0, .int .i64 0, .slice none 0 0, .slice none 0 0, .int .i64 0, .int .i64 0, .slice none 0 0, .slice none 0 0, .int .i64 0, .slice none 0 0, .slice none 0 0]) = V2
  generalize w1.heap.size = g5 at kr2 ka2 HG ⊢
  have a0 : w2.cell? ⟨w.heap.size, 0, none⟩ = some (.int .i64 6) := ka2.at_ (by rw [HC.out]; rfl)
  have a1 : w2.cell? ⟨w.heap.size, 1, none⟩ = some (.int .i64 f) := ka2.at_ (by rw [HC.out]; rfl)
  have a2 : w2.cell? ⟨w.heap.size, 2, none⟩ = some (.int .i64 t) := ka2.at_ (by rw [HC.out]; rfl)
  go_wp2_with fail
  refine (ref2_May n _).mono ?_
  rintro e w' ⟨rfl, rfl⟩
  rw [HI.out]
  have a31 : w2.cell? ⟨w.heap.size, 11, none⟩ = some (.int .i64 ca) := ka2.at_ (by rw [HC.out]; rfl)
  have a32 : w2.cell? ⟨w.heap.size, 12, none⟩ = some (.int .i64 cr) := ka2.at_ (by rw [HC.out]; rfl)
  have a33 : w2.cell? ⟨w.heap.size, 13, none⟩ = some (.slice A4 n4 c4) := ka2.at_ (by rw [HC.out]; rfl)
  have a34 : w2.cell? ⟨w.heap.size, 14, none⟩ = some (.slice A5 n5 c5) := ka2.at_ (by rw [HC.out]; rfl)
  have a35 : w2.cell? ⟨w.heap.size, 15, none⟩ = some (.int .i64 cd) := ka2.at_ (by rw [HC.out]; rfl)
  have a36 : w2.cell? ⟨w.heap.size, 16, none⟩ = some (.slice A6 n6 c6) := ka2.at_ (by rw [HC.out]; rfl)
  have r11 : w2.cell? ⟨g5, 11, none⟩ = some (.int .i64 0) := kr2.at_ rfl
  have f11 := kr2.frozen 11
  have r12 : w2.cell? ⟨g5, 12, none⟩ = some (.int .i64 0) := kr2.at_ rfl
  have f12 := kr2.frozen 12
  have r13 : w2.cell? ⟨g5, 13, none⟩ = some (.slice none 0 0) := kr2.at_ rfl
  have f13 := kr2.frozen 13
  have r14 : w2.cell? ⟨g5, 14, none⟩ = some (.slice none 0 0) := kr2.at_ rfl
  have f14 := kr2.frozen 14
  have r15 : w2.cell? ⟨g5, 15, none⟩ = some (.int .i64 0) := kr2.at_ rfl
  have f15 := kr2.frozen 15
  have r16 : w2.cell? ⟨g5, 16, none⟩ = some (.slice none 0 0) := kr2.at_ rfl
  have f16 := kr2.frozen 16
  have KK := hide (And.intro ((((((kr2.set_ 11 (.int .i64 ca)).set_ 12 (.int .i64 cr)).set_ 13 (.slice A4 n4 c4)).set_ 14 (.slice A5 n5 c5)).set_ 15 (.int .i64 cd)).set_ 16 (.slice A6 n6 c6)) (And.intro ((((((ka2.far (p := ⟨g5, 11, none⟩) (by have := HG.out; intro e; simp only at e; omega) (.int .i64 ca)).far (p := ⟨g5, 12, none⟩) (by have := HG.out; intro e; simp only at e; omega) (.int .i64 cr)).far (p := ⟨g5, 13, none⟩) (by have := HG.out; intro e; simp only at e; omega) (.slice A4 n4 c4)).far (p := ⟨g5, 14, none⟩) (by have := HG.out; intro e; simp only at e; omega) (.slice A5 n5 c5)).far (p := ⟨g5, 15, none⟩) (by have := HG.out; intro e; simp only at e; omega) (.int .i64 cd)).far (p := ⟨g5, 16, none⟩) (by have := HG.out; intro e; simp only at e; omega) (.slice A6 n6 c6)) ((((((hb2.setCell (p := ⟨g5, 11, none⟩) (by have := HG.out; show w.heap.size ≤ g5; omega) (.int .i64 ca)).setCell (p := ⟨g5, 12, none⟩) (by have := HG.out; show w.heap.size ≤ g5; omega) (.int .i64 cr)).setCell (p := ⟨g5, 13, none⟩) (by have := HG.out; show w.heap.size ≤ g5; omega) (.slice A4 n4 c4)).setCell (p := ⟨g5, 14, none⟩) (by have := HG.out; show w.heap.size ≤ g5; omega) (.slice A5 n5 c5)).setCell (p := ⟨g5, 15, none⟩) (by have := HG.out; show w.heap.size ≤ g5; omega) (.int .i64 cd)).setCell (p := ⟨g5, 16, none⟩) (by have := HG.out; show w.heap.size ≤ g5; omega) (.slice A6 n6 c6))))
  clear kr2 ka2 hb2
  go_upto_region 19 with fail
  clear e1 e2 e3 e4 e5 a1 a2
  generalize (((((w2.setCell ⟨g5, 11, none⟩ (.int .i64 ca)).setCell ⟨g5, 12, none⟩ (.int .i64 cr)).setCell ⟨g5, 13, none⟩ (.slice A4 n4 c4)).setCell ⟨g5, 14, none⟩ (.slice A5 n5 c5)).setCell ⟨g5, 15, none⟩ (.int .i64 cd)).setCell ⟨g5, 16, none⟩ (.slice A6 n6 c6) = w3 at KK ⊢
  obtain ⟨kr3, ka3, hb3⟩ := KK.out
  clear KK a0 a31 r11 f11 a32 r12 f12 a33 r13 f13 a34 r14 f14 a35 r15 f15 a36 r16 f16
  obtain ⟨w4, rfl⟩ : ∃ wo : World, wo = w3 := ⟨_, rfl⟩
  have HS4 := hide (HS0.out.below hb3)
  have b11 : w4.cell? ⟨w.heap.size, 11, none⟩ = some (.int .i64 ca) := ka3.at_ (by rw [HC.out]; rfl)
  have b12 : w4.cell? ⟨w.heap.size, 12, none⟩ = some (.int .i64 cr) := ka3.at_ (by rw [HC.out]; rfl)
  have b13 : w4.cell? ⟨w.heap.size, 13, none⟩ = some (.slice A4 n4 c4) := ka3.at_ (by rw [HC.out]; rfl)
  have b14 : w4.cell? ⟨w.heap.size, 14, none⟩ = some (.slice A5 n5 c5) := ka3.at_ (by rw [HC.out]; rfl)
  have b15 : w4.cell? ⟨w.heap.size, 15, none⟩ = some (.int .i64 cd) := ka3.at_ (by rw [HC.out]; rfl)
  have b16 : w4.cell? ⟨w.heap.size, 16, none⟩ = some (.slice A6 n6 c6) := ka3.at_ (by rw [HC.out]; rfl)
  obtain ⟨pc, HPC⟩ : ∃ p, Hid (mayC n ⟨⟨ca, cr, cbs, cps⟩, cd, ss⟩ = p) := ⟨_, rfl⟩
  rw [HPC.out] at HR2
  go_wp2_with fail
  refine (ref4_Cert n ⟨⟨ca, cr, cbs, cps⟩, cd, ss⟩ _ HS4.out.cb HS4.out.cp HS4.out.cs hz4 hz5 hz6 HPC).mono ?_
  rintro e w5 ⟨rfl, hb4'⟩
  have kr4 := kr3.later hb4'
  have ka4 := ka3.later hb4'
  have hb4 := below_then hb3 hb4'
  have kr5 := kr4
  have ka5 := ka4
  have hb5 := hb4
  obtain ⟨FA, HFA⟩ : ∃ FA : Array Value, Hid (FA = #[.int .i64 6, .int .i64 f, .int .i64 t, .int .i64 0, .int .i64 0, .int .i64 0, .slice none 0 0, .int .i64 0, .int .i64 0, .slice none 0 0, .slice none 0 0, .int .i64 ca, .int .i64 cr, .slice A4 n4 c4, .slice A5 n5 c5, .int .i64 cd, .slice A6 n6 c6, .slice none 0 0]) := ⟨_, rfl⟩
  have HFS : Hid (FA.size = 18) := by rw [Hid, HFA.out]; rfl
  have HCS : Hid (C.size = 18) := by rw [Hid, HC.out]; rfl
  have kr6 : Blk w5 g5 42 FA := by rw [HFA.out]; exact kr5
  clear kr5
  obtain ⟨pk, HPK⟩ : ∃ p : Bool, Hid (p = pc) := ⟨_, rfl⟩
  go_upto_region 24 with fail
  refine wp_region_lit ?_
  refine frame_off 136 [(2, .pointer (some ⟨w.heap.size, 0, none⟩)), (5, .pointer (some ⟨g5, 0, none⟩)), (6, .bool pk)] (Frm.start rfl (by intro p hp; simp only [List.mem_cons, List.not_mem_nil, or_false] at hp; rcases hp with rfl | rfl | rfl <;> first | rfl | simp [HPK.out])) (fun a hM => ?_)
  refine seg_cut7 (fun a' w' => Frm a' 136 [(4, .bool (if pk then q else false))] ∧ Hid (Below w.heap.size w w')) (fun K hK => ?_) (fun a' w' hS => ?_)
  · refine seg_move hM rfl (by omega) rfl (.inl rfl) rfl (fun a hM => ?_)
    refine seg_move hM rfl (by omega) rfl (.inl rfl) rfl (fun a hM => ?_)
    cases pk with
    | false =>
      refine seg_skip hM rfl (by omega) rfl rfl rfl rfl (fun a hM => ?_)
      refine seg_skip hM rfl (by omega) rfl rfl rfl rfl (fun a hM => ?_)
      refine seg_skip hM rfl (by omega) rfl rfl rfl rfl (fun a hM => ?_)
      refine seg_pick hM rfl (by omega) rfl rfl rfl rfl (fun a hM => ?_)
      refine seg_move hM rfl (by omega) rfl (.inr rfl) rfl (fun a hM => ?_)
      exact seg_nil (hK _ _ ⟨hM.weak (by intro p hp; simp only [List.mem_cons, List.not_mem_nil, or_false] at hp; subst hp; rfl), hide hb5⟩)
    | true =>
      refine seg_same hM rfl (by omega) rfl rfl rfl (v := .agg FA) (run_load_blk rfl g5 (hM.ev (t := 5) rfl) 42 FA _ kr6 Try.underlying42 rfl (by rw [HFS.out]; exact Try.infoMsg)) (fun a hM => ?_)
      refine seg_same hM rfl (by omega) rfl rfl rfl (v := .agg C) (run_load_blk rfl w.heap.size (hM.ev (t := 2) rfl) 42 C _ ka5 Try.underlying42 rfl (by rw [HCS.out]; exact Try.infoMsg)) (fun a hM => ?_)
      refine seg_callg hM rfl (by omega) rfl rfl rfl (f := 25) (args := #[.agg FA, .agg C]) (by simp only [execOp, resolve, List.map_toArray, List.map_cons, List.map_nil, hM.ev (t := 132) (v := .agg FA) rfl, hM.ev (t := 133) (v := .agg C) rfl]; simp [go_sem, Act.eval]) (ref0_EqMessage (onlyM ⟨6, f, t, d, ⟨ba, bn, l⟩, ⟨ha, hr, hbs, hps⟩, ⟨⟨ca, cr, cbs, cps⟩, cd, ss⟩, ds⟩) ⟨6, f, t, d, ⟨ba, bn, l⟩, ⟨ha, hr, hbs, hps⟩, ⟨⟨ca, cr, cbs, cps⟩, cd, ss⟩, ds⟩ (onlyV 6 ⟨⟨A1, n1, c1⟩, ⟨A2, n2, c2⟩, ⟨A3, n3, c3⟩, ⟨A4, n4, c4⟩, ⟨A5, n5, c5⟩, ⟨A6, n6, c6⟩, ⟨A7, n7, c7⟩⟩) ⟨⟨A1, n1, c1⟩, ⟨A2, n2, c2⟩, ⟨A3, n3, c3⟩, ⟨A4, n4, c4⟩, ⟨A5, n5, c5⟩, ⟨A6, n6, c6⟩, ⟨A7, n7, c7⟩⟩ _ (hide (HS0.out.only.below hb5)) (hide HZ0.out.only) (hide (HS0.out.below hb5)) HZ0 (by rw [Hid, HFA.out]; simp [msC, onlyM, onlyV, hasB, hasD, hasH, hasC, hasS, zB, zH, zC, nilV, SlV.v]) (by rw [Hid, HC.out]; rfl) HQ) (fun a wd hM hbd => ?_)
      refine seg_pick hM rfl (by omega) rfl rfl rfl rfl (fun a hM => ?_)
      refine seg_move hM rfl (by omega) rfl (.inr rfl) rfl (fun a hM => ?_)
      exact seg_nil (hK _ _ ⟨hM.weak (by intro p hp; simp only [List.mem_cons, List.not_mem_nil, or_false] at hp; subst hp; rfl), hide (below_then hb5 hbd)⟩)
  obtain ⟨hM, HBE⟩ := hS
  refine wpList_nil ?_
  simp only [Exit.then]
  go_step
  apply wp_ret
  refine bodyPost_ret (results_tmp rfl _ _ _) hM.2.1 ?_
  rw [show a'.tmps.getD 4 undef = .bool (if pk then q else false) from hM.ev (t := 4) rfl]
  exact ⟨ret_bool (by rw [HR2.out, ← HPK.out]; cases pk <;> rfl), HBE.out⟩
set_option maxRecDepth 100000 in
set_option maxHeartbeats 4000000 in
theorem refM_7 {A1 A2 A3 A4 A5 A6 A7 : Option Addr} {n1 c1 n2 c2 n3 c3 n4 c4 n5 c5 n6 c6 n7 c7 : Nat} (n f t d ba bn ha hr ca cr cd : Int) (l : List TxD) (hbs hps cbs cps ss ds : List Int) (w : World)
    (HS0 : Hid (MsS w ⟨7, f, t, d, ⟨ba, bn, l⟩, ⟨ha, hr, hbs, hps⟩, ⟨⟨ca, cr, cbs, cps⟩, cd, ss⟩, ds⟩ ⟨⟨A1, n1, c1⟩, ⟨A2, n2, c2⟩, ⟨A3, n3, c3⟩, ⟨A4, n4, c4⟩, ⟨A5, n5, c5⟩, ⟨A6, n6, c6⟩, ⟨A7, n7, c7⟩⟩)) (HZ0 : Hid (MsZ ⟨7, f, t, d, ⟨ba, bn, l⟩, ⟨ha, hr, hbs, hps⟩, ⟨⟨ca, cr, cbs, cps⟩, cd, ss⟩, ds⟩ ⟨⟨A1, n1, c1⟩, ⟨A2, n2, c2⟩, ⟨A3, n3, c3⟩, ⟨A4, n4, c4⟩, ⟨A5, n5, c5⟩, ⟨A6, n6, c6⟩, ⟨A7, n7, c7⟩⟩)) (HTZ : Hid (TxZ l))
    (hz1 : n1 ≤ 9223372036854775807) (hz2 : n2 ≤ 9223372036854775807) (hz3 : n3 ≤ 9223372036854775807) (hz4 : n4 ≤ 9223372036854775807) (hz5 : n5 ≤ 9223372036854775807) (hz6 : n6 ≤ 9223372036854775807) (hz7 : n7 ≤ 9223372036854775807) (HP : Hid (pairM n ⟨7, f, t, d, ⟨ba, bn, l⟩, ⟨ha, hr, hbs, hps⟩, ⟨⟨ca, cr, cbs, cps⟩, cd, ss⟩, ds⟩ = true)) {q r : Bool} (HQ : Hid (decide (onlyM ⟨7, f, t, d, ⟨ba, bn, l⟩, ⟨ha, hr, hbs, hps⟩, ⟨⟨ca, cr, cbs, cps⟩, cd, ss⟩, ds⟩ = ⟨7, f, t, d, ⟨ba, bn, l⟩, ⟨ha, hr, hbs, hps⟩, ⟨⟨ca, cr, cbs, cps⟩, cd, ss⟩, ds⟩) = q)) (HR2 : Hid (r = (decide (1 ≤ n7) && (decide ((ds.length : Int) ≤ 16) && digs ds) && q))) {C : Array Value} (HC : Hid (C = #[.int .i64 7, .int .i64 f, .int .i64 t, .int .i64 d, .int .i64 ba, .int .i64 bn, .slice A1 n1 c1, .int .i64 ha, .int .i64 hr, .slice A2 n2 c2, .slice A3 n3 c3, .int .i64 ca, .int .i64 cr, .slice A4 n4 c4, .slice A5 n5 c5, .int .i64 cd, .slice A6 n6 c6, .slice A7 n7 c7])) :
    Calls Try.prog 29 #[.agg C, .int .i64 n] w fun e w' => e = .returned (.bool r) ∧ Below w.heap.size w w' := by
  obtain ⟨hI, ⟨hf1, hf2⟩, ⟨ht1, ht2⟩, hft⟩ := pairM_iff.1 HP.out
  simp only at hf1 hf2 ht1 ht2 hft
  have HI : Hid (isC n = true) := hI
  have e5 : (f == t) = false := by simpa using hft
  have e1 : decide (f < 1) = false := by rw [decide_eq_false_iff_not]; omega
  have e2 : decide (n < f) = false := by rw [decide_eq_false_iff_not]; omega
  have e3 : decide (t < 1) = false := by rw [decide_eq_false_iff_not]; omega
  have e4 : decide (n < t) = false := by rw [decide_eq_false_iff_not]; omega
  have HFT := hide (And.intro (And.intro hf1 hf2) (And.intro (And.intro ht1 ht2) hft))
  clear HP hf1 hf2 ht1 ht2 hft hI
  go_enter Try.func29, Try.ntmps29
  go_upto_region 1 with fail
  have ka := Blk.new w 42 C
  have hb := below_alloc' w (.cells C 42)
  generalize w.alloc (.cells C 42) = w1 at ka hb ⊢
  have kr := Blk.new w1 42 #[.int .i64 0, .int .i64 0, .int .i64 0, .int .i64 0, .int .i64 0, .int .i64 0, .slice none 0 0, .int .i64 0, .int .i64 0, .slice none 0 0, .slice none 0 0, .int .i64 0, .int .i64 0, .slice none 0 0, .slice none 0 0, .int .i64 0, .slice none 0 0, .slice none 0 0]
  have ka' := ka.alloc (.cells #[.int .i64 0, .int .i64 0, .int .i64 0, .int .i64 0, .int .i64 0, .int .i64 0, .slice none 0 0, .int .i64 0, .int .i64 0, .slice none 0 0, .slice none 0 0, .int .i64 0, .int .i64 0, .slice none 0 0, .slice none 0 0, .int .i64 0, .slice none 0 0, .slice none 0 0] 42)
  have hb' := hb.alloc hb.size (.cells #[.int .i64 0, .int .i64 0, .int .i64 0, .int .i64 0, .int .i64 0, .int .i64 0, .slice none 0 0, .int .i64 0, .int .i64 0, .slice none 0 0, .slice none 0 0, .int .i64 0, .int .i64 0, .slice none 0 0, .slice none 0 0, .int .i64 0, .slice none 0 0, .slice none 0 0] 42)
  have HG : Hid (w.heap.size < w1.heap.size) := ka.lt
  have a0 : w1.cell? ⟨w.heap.size, 0, none⟩ = some (.int .i64 7) := ka.at_ (by rw [HC.out]; rfl)
  have a1 : w1.cell? ⟨w.heap.size, 1, none⟩ = some (.int .i64 f) := ka.at_ (by rw [HC.out]; rfl)
  have a2 : w1.cell? ⟨w.heap.size, 2, none⟩ = some (.int .i64 t) := ka.at_ (by rw [HC.out]; rfl)
  go_wp2_with (refine wpList_store_row rfl 42 (.tmp 5) (.tmp 13) rfl _ rfl 42 _ (.agg #[.int .i64 7, .int .i64 f, .int .i64 t, .int .i64 0, .int .i64 0, .int .i64 0, .slice none 0 0, .int .i64 0, .int .i64 0, .slice none 0 0, .slice none 0 0, .int .i64 0, .int .i64 0, .slice none 0 0, .slice none 0 0, .int .i64 0, .slice none 0 0, .slice none 0 0]) rfl kr Try.infoMsg rfl (by simp [Value.cells, Value.oneCell']) ?_)
  intro w2 kr2' hg2
  have kr2 : Blk w2 w1.heap.size 42 #[.int .i64 7, .int .i64 f, .int .i64 t, .int .i64 0, .int .i64 0, .int .i64 0, .slice none 0 0, .int .i64 0, .int .i64 0, .slice none 0 0, .slice none 0 0, .int .i64 0, .int .i64 0, .slice none 0 0, .slice none 0 0, .int .i64 0, .slice none 0 0, .slice none 0 0] := kr2'
  have hb2 : Below w.heap.size w w2 := hb'.grown hg2 hb'.size (fun g e => by injection e with e; have := HG.out; omega)
  have ka2 := ka'.grown hg2 (by intro e; injection e with e; have := HG.out; omega)
  clear ka kr hb ka' hb' a0 a1 a2 hg2 kr2'
  generalize (Value.agg #[.int .i64 7, .int .i64 f, .int .i64 t, .int .i64 0, .int .i64 0, .int .i64 0, .slice none 0 0, .int .i64 0, .int .i64 0, .slice none 0 0, .slice none 0 0, .int .i64 0, .int .i64 0, .slice none 0 0, .slice none 0 0, .int .i64 0, .slice none 0 0, .slice none 0 0]) = V2
  generalize w1.heap.size = g5 at kr2 ka2 HG ⊢
  have a0 : w2.cell? ⟨w.heap.size, 0, none⟩ = some (.int .i64 7) := ka2.at_ (by rw [HC.out]; rfl)
  have a1 : w2.cell? ⟨w.heap.size, 1, none⟩ = some (.int .i64 f) := ka2.at_ (by rw [HC.out]; rfl)
  have a2 : w2.cell? ⟨w.heap.size, 2, none⟩ = some (.int .i64 t) := ka2.at_ (by rw [HC.out]; rfl)
  go_wp2_with fail
  refine (ref2_May n _).mono ?_
  rintro e w' ⟨rfl, rfl⟩
  rw [HI.out]
  have a37 : w2.cell? ⟨w.heap.size, 17, none⟩ = some (.slice A7 n7 c7) := ka2.at_ (by rw [HC.out]; rfl)
  have r17 : w2.cell? ⟨g5, 17, none⟩ = some (.slice none 0 0) := kr2.at_ rfl
  have f17 := kr2.frozen 17
  have KK := hide (And.intro (kr2.set_ 17 (.slice A7 n7 c7)) (And.intro (ka2.far (p := ⟨g5, 17, none⟩) (by have := HG.out; intro e; simp only at e; omega) (.slice A7 n7 c7)) (hb2.setCell (p := ⟨g5, 17, none⟩) (by have := HG.out; show w.heap.size ≤ g5; omega) (.slice A7 n7 c7))))
  clear kr2 ka2 hb2
  go_upto_region 23 with fail
  clear e1 e2 e3 e4 e5 a1 a2
  generalize w2.setCell ⟨g5, 17, none⟩ (.slice A7 n7 c7) = w3 at KK ⊢
  obtain ⟨kr3, ka3, hb3⟩ := KK.out
  clear KK a0 a37 r17 f17
  obtain ⟨w4, rfl⟩ : ∃ wo : World, wo = w3 := ⟨_, rfl⟩
  have HS4 := hide (HS0.out.below hb3)
  have b17 : w4.cell? ⟨w.heap.size, 17, none⟩ = some (.slice A7 n7 c7) := ka3.at_ (by rw [HC.out]; rfl)
  obtain ⟨ps, HPS⟩ : ∃ p, Hid ((decide ((ds.length : Int) ≤ 16) && digs ds) = p) := ⟨_, rfl⟩
  rw [HPS.out] at HR2
  by_cases hn : 1 ≤ n7
  case neg =>
    have hd1 : decide ((1 : Int) ≤ (n7 : Int)) = false := by rw [decide_eq_false_iff_not]; omega
    have HN := hide hn
    clear hn
    have kr5 := kr3
    have ka5 := ka3
    have hb5 := hb3
    go_wp2_with fail
    go_ret
    exact ⟨ret_bool (by first | exact HR2.out.symm | (rw [HR2.out]; first | rfl | (have := HN.out; simp; omega) | simp)), hb5⟩
  have hd1 : decide ((1 : Int) ≤ (n7 : Int)) = true := by rw [decide_eq_true_eq]; omega
  have HN := hide hn
  clear hn
  go_wp2_with fail
  refine (ref4_digests _ _ HS4.out.ds hz7 HPS).mono ?_
  rintro e w5 ⟨rfl, qq, rfl⟩
  have kr4 := kr3.later (below_drewN (Below.refl _ w4) qq)
  have ka4 := ka3.later (below_drewN (Below.refl _ w4) qq)
  have hb4 := below_then hb3 (below_drewN (Below.refl _ w4) qq)
  generalize w4.drewN qq = w5 at kr4 ka4 hb4 ⊢
  have kr5 := kr4
  have ka5 := ka4
  have hb5 := hb4
  obtain ⟨FA, HFA⟩ : ∃ FA : Array Value, Hid (FA = #[.int .i64 7, .int .i64 f, .int .i64 t, .int .i64 0, .int .i64 0, .int .i64 0, .slice none 0 0, .int .i64 0, .int .i64 0, .slice none 0 0, .slice none 0 0, .int .i64 0, .int .i64 0, .slice none 0 0, .slice none 0 0, .int .i64 0, .slice none 0 0, .slice A7 n7 c7]) := ⟨_, rfl⟩
  have HFS : Hid (FA.size = 18) := by rw [Hid, HFA.out]; rfl
  have HCS : Hid (C.size = 18) := by rw [Hid, HC.out]; rfl
  have kr6 : Blk w5 g5 42 FA := by rw [HFA.out]; exact kr5
  clear kr5
  obtain ⟨pk, HPK⟩ : ∃ p : Bool, Hid (p = ps) := ⟨_, rfl⟩
  go_upto_region 24 with fail
  refine wp_region_lit ?_
  refine frame_off 136 [(2, .pointer (some ⟨w.heap.size, 0, none⟩)), (5, .pointer (some ⟨g5, 0, none⟩)), (6, .bool pk)] (Frm.start rfl (by intro p hp; simp only [List.mem_cons, List.not_mem_nil, or_false] at hp; rcases hp with rfl | rfl | rfl <;> first | rfl | simp [HPK.out])) (fun a hM => ?_)
  refine seg_cut7 (fun a' w' => Frm a' 136 [(4, .bool (if pk then q else false))] ∧ Hid (Below w.heap.size w w')) (fun K hK => ?_) (fun a' w' hS => ?_)
  · refine seg_move hM rfl (by omega) rfl (.inl rfl) rfl (fun a hM => ?_)
    refine seg_move hM rfl (by omega) rfl (.inl rfl) rfl (fun a hM => ?_)
    cases pk with
    | false =>
      refine seg_skip hM rfl (by omega) rfl rfl rfl rfl (fun a hM => ?_)
      refine seg_skip hM rfl (by omega) rfl rfl rfl rfl (fun a hM => ?_)
      refine seg_skip hM rfl (by omega) rfl rfl rfl rfl (fun a hM => ?_)
      refine seg_pick hM rfl (by omega) rfl rfl rfl rfl (fun a hM => ?_)
      refine seg_move hM rfl (by omega) rfl (.inr rfl) rfl (fun a hM => ?_)
      exact seg_nil (hK _ _ ⟨hM.weak (by intro p hp; simp only [List.mem_cons, List.not_mem_nil, or_false] at hp; subst hp; rfl), hide hb5⟩)
    | true =>
      refine seg_same hM rfl (by omega) rfl rfl rfl (v := .agg FA) (run_load_blk rfl g5 (hM.ev (t := 5) rfl) 42 FA _ kr6 Try.underlying42 rfl (by rw [HFS.out]; exact Try.infoMsg)) (fun a hM => ?_)
      refine seg_same hM rfl (by omega) rfl rfl rfl (v := .agg C) (run_load_blk rfl w.heap.size (hM.ev (t := 2) rfl) 42 C _ ka5 Try.underlying42 rfl (by rw [HCS.out]; exact Try.infoMsg)) (fun a hM => ?_)
      refine seg_callg hM rfl (by omega) rfl rfl rfl (f := 25) (args := #[.agg FA, .agg C]) (by simp only [execOp, resolve, List.map_toArray, List.map_cons, List.map_nil, hM.ev (t := 132) (v := .agg FA) rfl, hM.ev (t := 133) (v := .agg C) rfl]; simp [go_sem, Act.eval]) (ref0_EqMessage (onlyM ⟨7, f, t, d, ⟨ba, bn, l⟩, ⟨ha, hr, hbs, hps⟩, ⟨⟨ca, cr, cbs, cps⟩, cd, ss⟩, ds⟩) ⟨7, f, t, d, ⟨ba, bn, l⟩, ⟨ha, hr, hbs, hps⟩, ⟨⟨ca, cr, cbs, cps⟩, cd, ss⟩, ds⟩ (onlyV 7 ⟨⟨A1, n1, c1⟩, ⟨A2, n2, c2⟩, ⟨A3, n3, c3⟩, ⟨A4, n4, c4⟩, ⟨A5, n5, c5⟩, ⟨A6, n6, c6⟩, ⟨A7, n7, c7⟩⟩) ⟨⟨A1, n1, c1⟩, ⟨A2, n2, c2⟩, ⟨A3, n3, c3⟩, ⟨A4, n4, c4⟩, ⟨A5, n5, c5⟩, ⟨A6, n6, c6⟩, ⟨A7, n7, c7⟩⟩ _ (hide (HS0.out.only.below hb5)) (hide HZ0.out.only) (hide (HS0.out.below hb5)) HZ0 (by rw [Hid, HFA.out]; simp [msC, onlyM, onlyV, hasB, hasD, hasH, hasC, hasS, zB, zH, zC, nilV, SlV.v]) (by rw [Hid, HC.out]; rfl) HQ) (fun a wd hM hbd => ?_)
      refine seg_pick hM rfl (by omega) rfl rfl rfl rfl (fun a hM => ?_)
      refine seg_move hM rfl (by omega) rfl (.inr rfl) rfl (fun a hM => ?_)
      exact seg_nil (hK _ _ ⟨hM.weak (by intro p hp; simp only [List.mem_cons, List.not_mem_nil, or_false] at hp; subst hp; rfl), hide (below_then hb5 hbd)⟩)
  obtain ⟨hM, HBE⟩ := hS
  refine wpList_nil ?_
  simp only [Exit.then]
  go_step
  apply wp_ret
  refine bodyPost_ret (results_tmp rfl _ _ _) hM.2.1 ?_
  rw [show a'.tmps.getD 4 undef = .bool (if pk then q else false) from hM.ev (t := 4) rfl]
  exact ⟨ret_bool (by rw [HR2.out, ← HPK.out]; cases pk <;> (have := HN.out; rw [show decide (1 ≤ n7) = true from by rw [decide_eq_true_eq]; omega]; rfl)), HBE.out⟩
set_option maxRecDepth 100000 in
set_option maxHeartbeats 4000000 in
theorem refM_8 {A1 A2 A3 A4 A5 A6 A7 : Option Addr} {n1 c1 n2 c2 n3 c3 n4 c4 n5 c5 n6 c6 n7 c7 : Nat} (n f t d ba bn ha hr ca cr cd : Int) (l : List TxD) (hbs hps cbs cps ss ds : List Int) (w : World)
    (HS0 : Hid (MsS w ⟨8, f, t, d, ⟨ba, bn, l⟩, ⟨ha, hr, hbs, hps⟩, ⟨⟨ca, cr, cbs, cps⟩, cd, ss⟩, ds⟩ ⟨⟨A1, n1, c1⟩, ⟨A2, n2, c2⟩, ⟨A3, n3, c3⟩, ⟨A4, n4, c4⟩, ⟨A5, n5, c5⟩, ⟨A6, n6, c6⟩, ⟨A7, n7, c7⟩⟩)) (HZ0 : Hid (MsZ ⟨8, f, t, d, ⟨ba, bn, l⟩, ⟨ha, hr, hbs, hps⟩, ⟨⟨ca, cr, cbs, cps⟩, cd, ss⟩, ds⟩ ⟨⟨A1, n1, c1⟩, ⟨A2, n2, c2⟩, ⟨A3, n3, c3⟩, ⟨A4, n4, c4⟩, ⟨A5, n5, c5⟩, ⟨A6, n6, c6⟩, ⟨A7, n7, c7⟩⟩)) (HTZ : Hid (TxZ l))
    (hz1 : n1 ≤ 9223372036854775807) (hz2 : n2 ≤ 9223372036854775807) (hz3 : n3 ≤ 9223372036854775807) (hz4 : n4 ≤ 9223372036854775807) (hz5 : n5 ≤ 9223372036854775807) (hz6 : n6 ≤ 9223372036854775807) (hz7 : n7 ≤ 9223372036854775807) (HP : Hid (pairM n ⟨8, f, t, d, ⟨ba, bn, l⟩, ⟨ha, hr, hbs, hps⟩, ⟨⟨ca, cr, cbs, cps⟩, cd, ss⟩, ds⟩ = true)) {q r : Bool} (HQ : Hid (decide (onlyM ⟨8, f, t, d, ⟨ba, bn, l⟩, ⟨ha, hr, hbs, hps⟩, ⟨⟨ca, cr, cbs, cps⟩, cd, ss⟩, ds⟩ = ⟨8, f, t, d, ⟨ba, bn, l⟩, ⟨ha, hr, hbs, hps⟩, ⟨⟨ca, cr, cbs, cps⟩, cd, ss⟩, ds⟩) = q)) (HR2 : Hid (r = (decide (1 ≤ n7) && (decide ((ds.length : Int) ≤ 16) && digs ds) && q))) {C : Array Value} (HC : Hid (C = #[.int .i64 8, .int .i64 f, .int .i64 t, .int .i64 d, .int .i64 ba, .int .i64 bn, .slice A1 n1 c1, .int .i64 ha, .int .i64 hr, .slice A2 n2 c2, .slice A3 n3 c3, .int .i64 ca, .int .i64 cr, .slice A4 n4 c4, .slice A5 n5 c5, .int .i64 cd, .slice A6 n6 c6, .slice A7 n7 c7])) :
    Calls Try.prog 29 #[.agg C, .int .i64 n] w fun e w' => e = .returned (.bool r) ∧ Below w.heap.size w w' := by
  obtain ⟨hI, ⟨hf1, hf2⟩, ⟨ht1, ht2⟩, hft⟩ := pairM_iff.1 HP.out
  simp only at hf1 hf2 ht1 ht2 hft
  have HI : Hid (isC n = true) := hI
  have e5 : (f == t) = false := by simpa using hft
  have e1 : decide (f < 1) = false := by rw [decide_eq_false_iff_not]; omega
  have e2 : decide (n < f) = false := by rw [decide_eq_false_iff_not]; omega
  have e3 : decide (t < 1) = false := by rw [decide_eq_false_iff_not]; omega
  have e4 : decide (n < t) = false := by rw [decide_eq_false_iff_not]; omega
  have HFT := hide (And.intro (And.intro hf1 hf2) (And.intro (And.intro ht1 ht2) hft))
  clear HP hf1 hf2 ht1 ht2 hft hI
  go_enter Try.func29, Try.ntmps29
  go_upto_region 1 with fail
  have ka := Blk.new w 42 C
  have hb := below_alloc' w (.cells C 42)
  generalize w.alloc (.cells C 42) = w1 at ka hb ⊢
  have kr := Blk.new w1 42 #[.int .i64 0, .int .i64 0, .int .i64 0, .int .i64 0, .int .i64 0, .int .i64 0, .slice none 0 0, .int .i64 0, .int .i64 0, .slice none 0 0, .slice none 0 0, .int .i64 0, .int .i64 0, .slice none 0 0, .slice none 0 0, .int .i64 0, .slice none 0 0, .slice none 0 0]
  have ka' := ka.alloc (.cells #[.int .i64 0, .int .i64 0, .int .i64 0, .int .i64 0, .int .i64 0, .int .i64 0, .slice none 0 0, .int .i64 0, .int .i64 0, .slice none 0 0, .slice none 0 0, .int .i64 0, .int .i64 0, .slice none 0 0, .slice none 0 0, .int .i64 0, .slice none 0 0, .slice none 0 0] 42)
  have hb' := hb.alloc hb.size (.cells #[.int .i64 0, .int .i64 0, .int .i64 0, .int .i64 0, .int .i64 0, .int .i64 0, .slice none 0 0, .int .i64 0, .int .i64 0, .slice none 0 0, .slice none 0 0, .int .i64 0, .int .i64 0, .slice none 0 0, .slice none 0 0, .int .i64 0, .slice none 0 0, .slice none 0 0] 42)
  have HG : Hid (w.heap.size < w1.heap.size) := ka.lt
  have a0 : w1.cell? ⟨w.heap.size, 0, none⟩ = some (.int .i64 8) := ka.at_ (by rw [HC.out]; rfl)
  have a1 : w1.cell? ⟨w.heap.size, 1, none⟩ = some (.int .i64 f) := ka.at_ (by rw [HC.out]; rfl)
  have a2 : w1.cell? ⟨w.heap.size, 2, none⟩ = some (.int .i64 t) := ka.at_ (by rw [HC.out]; rfl)
  go_wp2_with (refine wpList_store_row rfl 42 (.tmp 5) (.tmp 13) rfl _ rfl 42 _ (.agg #[.int .i64 8, .int .i64 f, .int .i64 t, .int .i64 0, .int .i64 0, .int .i64 0, .slice none 0 0, .int .i64 0, .int .i64 0, .slice none 0 0, .slice none 0 0, .int .i64 0, .int .i64 0, .slice none 0 0, .slice none 0 0, .int .i64 0, .slice none 0 0, .slice none 0 0]) rfl kr Try.infoMsg rfl (by simp [Value.cells, Value.oneCell']) ?_)
  intro w2 kr2' hg2
  have kr2 : Blk w2 w1.heap.size 42 #[.int .i64 8, .int .i64 f, .int .i64 t, .int .i64 0, .int .i64 0, .int .i64 0, .slice none 0 0, .int .i64 0, .int .i64 0, .slice none 0 0, .slice none 0 0, .int .i64 0, .int .i64 0, .slice none 0 0, .slice none 0 0, .int .i64 0, .slice none 0 0, .slice none 0 0] := kr2'
  have hb2 : Below w.heap.size w w2 := hb'.grown hg2 hb'.size (fun g e => by injection e with e; have := HG.out; omega)
  have ka2 := ka'.grown hg2 (by intro e; injection e with e; have := HG.out; omega)
  clear ka kr hb ka' hb' a0 a1 a2 hg2 kr2'
  generalize (Value.agg #[.int .i64 8, .int .i64 f, .int .i64 t, .int .i64 0, .int .i64 0, .int .i64 0, .slice none 0 0, .int .i64 0, .int .i64 0, .slice none 0 0, .slice none 0 0, .int .i64 0, .int .i64 0, .slice none 0 0, .slice none 0 0, .int .i64 0, .slice none 0 0, .slice none 0 0]) = V2
  generalize w1.heap.size = g5 at kr2 ka2 HG ⊢
  have a0 : w2.cell? ⟨w.heap.size, 0, none⟩ = some (.int .i64 8) := ka2.at_ (by rw [HC.out]; rfl)
  have a1 : w2.cell? ⟨w.heap.size, 1, none⟩ = some (.int .i64 f) := ka2.at_ (by rw [HC.out]; rfl)
  have a2 : w2.cell? ⟨w.heap.size, 2, none⟩ = some (.int .i64 t) := ka2.at_ (by rw [HC.out]; rfl)
  go_wp2_with fail
  refine (ref2_May n _).mono ?_
  rintro e w' ⟨rfl, rfl⟩
  rw [HI.out]
  have a37 : w2.cell? ⟨w.heap.size, 17, none⟩ = some (.slice A7 n7 c7) := ka2.at_ (by rw [HC.out]; rfl)
  have r17 : w2.cell? ⟨g5, 17, none⟩ = some (.slice none 0 0) := kr2.at_ rfl
  have f17 := kr2.frozen 17
  have KK := hide (And.intro (kr2.set_ 17 (.slice A7 n7 c7)) (And.intro (ka2.far (p := ⟨g5, 17, none⟩) (by have := HG.out; intro e; simp only at e; omega) (.slice A7 n7 c7)) (hb2.setCell (p := ⟨g5, 17, none⟩) (by have := HG.out; show w.heap.size ≤ g5; omega) (.slice A7 n7 c7))))
  clear kr2 ka2 hb2
  go_upto_region 23 with fail
  clear e1 e2 e3 e4 e5 a1 a2
  generalize w2.setCell ⟨g5, 17, none⟩ (.slice A7 n7 c7) = w3 at KK ⊢
  obtain ⟨kr3, ka3, hb3⟩ := KK.out
  clear KK a0 a37 r17 f17
  obtain ⟨w4, rfl⟩ : ∃ wo : World, wo = w3 := ⟨_, rfl⟩
  have HS4 := hide (HS0.out.below hb3)
  have b17 : w4.cell? ⟨w.heap.size, 17, none⟩ = some (.slice A7 n7 c7) := ka3.at_ (by rw [HC.out]; rfl)
  obtain ⟨ps, HPS⟩ : ∃ p, Hid ((decide ((ds.length : Int) ≤ 16) && digs ds) = p) := ⟨_, rfl⟩
  rw [HPS.out] at HR2
  by_cases hn : 1 ≤ n7
  case neg =>
    have hd1 : decide ((1 : Int) ≤ (n7 : Int)) = false := by rw [decide_eq_false_iff_not]; omega
    have HN := hide hn
    clear hn
    have kr5 := kr3
    have ka5 := ka3
    have hb5 := hb3
    go_wp2_with fail
    go_ret
    exact ⟨ret_bool (by first | exact HR2.out.symm | (rw [HR2.out]; first | rfl | (have := HN.out; simp; omega) | simp)), hb5⟩
  have hd1 : decide ((1 : Int) ≤ (n7 : Int)) = true := by rw [decide_eq_true_eq]; omega
  have HN := hide hn
  clear hn
  go_wp2_with fail
  refine (ref4_digests _ _ HS4.out.ds hz7 HPS).mono ?_
  rintro e w5 ⟨rfl, qq, rfl⟩
  have kr4 := kr3.later (below_drewN (Below.refl _ w4) qq)
  have ka4 := ka3.later (below_drewN (Below.refl _ w4) qq)
  have hb4 := below_then hb3 (below_drewN (Below.refl _ w4) qq)
  generalize w4.drewN qq = w5 at kr4 ka4 hb4 ⊢
  have kr5 := kr4
  have ka5 := ka4
  have hb5 := hb4
  obtain ⟨FA, HFA⟩ : ∃ FA : Array Value, Hid (FA = #[.int .i64 8, .int .i64 f, .int .i64 t, .int .i64 0, .int .i64 0, .int .i64 0, .slice none 0 0, .int .i64 0, .int .i64 0, .slice none 0 0, .slice none 0 0, .int .i64 0, .int .i64 0, .slice none 0 0, .slice none 0 0, .int .i64 0, .slice none 0 0, .slice A7 n7 c7]) := ⟨_, rfl⟩
  have HFS : Hid (FA.size = 18) := by rw [Hid, HFA.out]; rfl
  have HCS : Hid (C.size = 18) := by rw [Hid, HC.out]; rfl
  have kr6 : Blk w5 g5 42 FA := by rw [HFA.out]; exact kr5
  clear kr5
  obtain ⟨pk, HPK⟩ : ∃ p : Bool, Hid (p = ps) := ⟨_, rfl⟩
  go_upto_region 24 with fail
  refine wp_region_lit ?_
  refine frame_off 136 [(2, .pointer (some ⟨w.heap.size, 0, none⟩)), (5, .pointer (some ⟨g5, 0, none⟩)), (6, .bool pk)] (Frm.start rfl (by intro p hp; simp only [List.mem_cons, List.not_mem_nil, or_false] at hp; rcases hp with rfl | rfl | rfl <;> first | rfl | simp [HPK.out])) (fun a hM => ?_)
  refine seg_cut7 (fun a' w' => Frm a' 136 [(4, .bool (if pk then q else false))] ∧ Hid (Below w.heap.size w w')) (fun K hK => ?_) (fun a' w' hS => ?_)
  · refine seg_move hM rfl (by omega) rfl (.inl rfl) rfl (fun a hM => ?_)
    refine seg_move hM rfl (by omega) rfl (.inl rfl) rfl (fun a hM => ?_)
    cases pk with
    | false =>
      refine seg_skip hM rfl (by omega) rfl rfl rfl rfl (fun a hM => ?_)
      refine seg_skip hM rfl (by omega) rfl rfl rfl rfl (fun a hM => ?_)
      refine seg_skip hM rfl (by omega) rfl rfl rfl rfl (fun a hM => ?_)
      refine seg_pick hM rfl (by omega) rfl rfl rfl rfl (fun a hM => ?_)
      refine seg_move hM rfl (by omega) rfl (.inr rfl) rfl (fun a hM => ?_)
      exact seg_nil (hK _ _ ⟨hM.weak (by intro p hp; simp only [List.mem_cons, List.not_mem_nil, or_false] at hp; subst hp; rfl), hide hb5⟩)
    | true =>
      refine seg_same hM rfl (by omega) rfl rfl rfl (v := .agg FA) (run_load_blk rfl g5 (hM.ev (t := 5) rfl) 42 FA _ kr6 Try.underlying42 rfl (by rw [HFS.out]; exact Try.infoMsg)) (fun a hM => ?_)
      refine seg_same hM rfl (by omega) rfl rfl rfl (v := .agg C) (run_load_blk rfl w.heap.size (hM.ev (t := 2) rfl) 42 C _ ka5 Try.underlying42 rfl (by rw [HCS.out]; exact Try.infoMsg)) (fun a hM => ?_)
      refine seg_callg hM rfl (by omega) rfl rfl rfl (f := 25) (args := #[.agg FA, .agg C]) (by simp only [execOp, resolve, List.map_toArray, List.map_cons, List.map_nil, hM.ev (t := 132) (v := .agg FA) rfl, hM.ev (t := 133) (v := .agg C) rfl]; simp [go_sem, Act.eval]) (ref0_EqMessage (onlyM ⟨8, f, t, d, ⟨ba, bn, l⟩, ⟨ha, hr, hbs, hps⟩, ⟨⟨ca, cr, cbs, cps⟩, cd, ss⟩, ds⟩) ⟨8, f, t, d, ⟨ba, bn, l⟩, ⟨ha, hr, hbs, hps⟩, ⟨⟨ca, cr, cbs, cps⟩, cd, ss⟩, ds⟩ (onlyV 8 ⟨⟨A1, n1, c1⟩, ⟨A2, n2, c2⟩, ⟨A3, n3, c3⟩, ⟨A4, n4, c4⟩, ⟨A5, n5, c5⟩, ⟨A6, n6, c6⟩, ⟨A7, n7, c7⟩⟩) ⟨⟨A1, n1, c1⟩, ⟨A2, n2, c2⟩, ⟨A3, n3, c3⟩, ⟨A4, n4, c4⟩, ⟨A5, n5, c5⟩, ⟨A6, n6, c6⟩, ⟨A7, n7, c7⟩⟩ _ (hide (HS0.out.only.below hb5)) (hide HZ0.out.only) (hide (HS0.out.below hb5)) HZ0 (by rw [Hid, HFA.out]; simp [msC, onlyM, onlyV, hasB, hasD, hasH, hasC, hasS, zB, zH, zC, nilV, SlV.v]) (by rw [Hid, HC.out]; rfl) HQ) (fun a wd hM hbd => ?_)
      refine seg_pick hM rfl (by omega) rfl rfl rfl rfl (fun a hM => ?_)
      refine seg_move hM rfl (by omega) rfl (.inr rfl) rfl (fun a hM => ?_)
      exact seg_nil (hK _ _ ⟨hM.weak (by intro p hp; simp only [List.mem_cons, List.not_mem_nil, or_false] at hp; subst hp; rfl), hide (below_then hb5 hbd)⟩)
  obtain ⟨hM, HBE⟩ := hS
  refine wpList_nil ?_
  simp only [Exit.then]
  go_step
  apply wp_ret
  refine bodyPost_ret (results_tmp rfl _ _ _) hM.2.1 ?_
  rw [show a'.tmps.getD 4 undef = .bool (if pk then q else false) from hM.ev (t := 4) rfl]
  exact ⟨ret_bool (by rw [HR2.out, ← HPK.out]; cases pk <;> (have := HN.out; rw [show decide (1 ≤ n7) = true from by rw [decide_eq_true_eq]; omega]; rfl)), HBE.out⟩
end Go.Proofs.Ytebaojcfmkobjaa
