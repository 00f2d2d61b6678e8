/-
  Contracts: droverref4.Message, kinds 3, 4.
-/
import Derived.Test.YtebaojcfmkobjaaMsgO
import Derived.Test.YtebaojcfmkobjaaMsgYz
import Derived.Test.YtebaojcfmkobjaaMsgT
import Derived.Test.YtebaojcfmkobjaaGr00
import Derived.Test.YtebaojcfmkobjaaGr10
import Derived.Test.YtebaojcfmkobjaaHdrS
import Derived.Test.YtebaojcfmkobjaaGr04
set_option linter.unusedVariables false
set_option linter.unusedSimpArgs false
namespace Go.Proofs.Ytebaojcfmkobjaa
open Go.RowKit

set_option maxRecDepth 100000 in
set_option maxHeartbeats 4000000 in
theorem refM_3 {A1 A2 A3 A4 A5 A6 A7 : Option Addr} {n1 c1 n2 c2 n3 c3 n4 c4 n5 c5 n6 c6 n7 c7 : Nat} (n f t d ba bn ha hr ca cr cd : Int) (l : List TxD) (hbs hps cbs cps ss ds : List Int) (w : World)
    (HS0 : Hid (MsS w ⟨3, f, t, d, ⟨ba, bn, l⟩, ⟨ha, hr, hbs, hps⟩, ⟨⟨ca, cr, cbs, cps⟩, cd, ss⟩, ds⟩ ⟨⟨A1, n1, c1⟩, ⟨A2, n2, c2⟩, ⟨A3, n3, c3⟩, ⟨A4, n4, c4⟩, ⟨A5, n5, c5⟩, ⟨A6, n6, c6⟩, ⟨A7, n7, c7⟩⟩)) (HZ0 : Hid (MsZ ⟨3, f, t, d, ⟨ba, bn, l⟩, ⟨ha, hr, hbs, hps⟩, ⟨⟨ca, cr, cbs, cps⟩, cd, ss⟩, ds⟩ ⟨⟨A1, n1, c1⟩, ⟨A2, n2, c2⟩, ⟨A3, n3, c3⟩, ⟨A4, n4, c4⟩, ⟨A5, n5, c5⟩, ⟨A6, n6, c6⟩, ⟨A7, n7, c7⟩⟩)) (HTZ : Hid (TxZ l))
    (hz1 : n1 ≤ 9223372036854775807) (hz2 : n2 ≤ 9223372036854775807) (hz3 : n3 ≤ 9223372036854775807) (hz4 : n4 ≤ 9223372036854775807) (hz5 : n5 ≤ 9223372036854775807) (hz6 : n6 ≤ 9223372036854775807) (hz7 : n7 ≤ 9223372036854775807) (HP : Hid (pairM n ⟨3, f, t, d, ⟨ba, bn, l⟩, ⟨ha, hr, hbs, hps⟩, ⟨⟨ca, cr, cbs, cps⟩, cd, ss⟩, ds⟩ = true)) {q r : Bool} (HQ : Hid (decide (onlyM ⟨3, f, t, d, ⟨ba, bn, l⟩, ⟨ha, hr, hbs, hps⟩, ⟨⟨ca, cr, cbs, cps⟩, cd, ss⟩, ds⟩ = ⟨3, f, t, d, ⟨ba, bn, l⟩, ⟨ha, hr, hbs, hps⟩, ⟨⟨ca, cr, cbs, cps⟩, cd, ss⟩, ds⟩) = q)) (HR2 : Hid (r = (digO d && (mayB ba bn l && decide (ba ≤ n)) && q))) {C : Array Value} (HC : Hid (C = #[.int .i64 3, .int .i64 f, .int .i64 t, .int .i64 d, .int .i64 ba, .int .i64 bn, .slice A1 n1 c1, .int .i64 ha, .int .i64 hr, .slice A2 n2 c2, .slice A3 n3 c3, .int .i64 ca, .int .i64 cr, .slice A4 n4 c4, .slice A5 n5 c5, .int .i64 cd, .slice A6 n6 c6, .slice A7 n7 c7])) :
    Calls Try.prog 29 #[.agg C, .int .i64 n] w fun e w' => e = .returned (.bool r) ∧ Below w.heap.size w w' := by
  obtain ⟨hI, ⟨hf1, hf2⟩, ⟨ht1, ht2⟩, hft⟩ := pairM_iff.1 HP.out
  simp only at hf1 hf2 ht1 ht2 hft
  have HI : Hid (isC n = true) := hI
  have e5 : (f == t) = false := by simpa using hft
  have e1 : decide (f < 1) = false := by rw [decide_eq_false_iff_not]; omega
  have e2 : decide (n < f) = false := by rw [decide_eq_false_iff_not]; omega
  have e3 : decide (t < 1) = false := by rw [decide_eq_false_iff_not]; omega
  have e4 : decide (n < t) = false := by rw [decide_eq_false_iff_not]; omega
  have HFT := hide (And.intro (And.intro hf1 hf2) (And.intro (And.intro ht1 ht2) hft))
  clear HP hf1 hf2 ht1 ht2 hft hI
  go_enter Try.func29, Try.ntmps29
  go_upto_region 1 with fail
  have ka := Blk.new w 42 C
  have hb := below_alloc' w (.cells C 42)
  generalize w.alloc (.cells C 42) = w1 at ka hb ⊢
  have kr := Blk.new w1 42 #[.int .i64 0, .int .i64 0, .int .i64 0, .int .i64 0, .int .i64 0, .int .i64 0, .slice none 0 0, .int .i64 0, .int .i64 0, .slice none 0 0, .slice none 0 0, .int .i64 0, .int .i64 0, .slice none 0 0, .slice none 0 0, .int .i64 0, .slice none 0 0, .slice none 0 0]
  have ka' := ka.alloc (.cells #[.int .i64 0, .int .i64 0, .int .i64 0, .int .i64 0, .int .i64 0, .int .i64 0, .slice none 0 0, .int .i64 0, .int .i64 0, .slice none 0 0, .slice none 0 0, .int .i64 0, .int .i64 0, .slice none 0 0, .slice none 0 0, .int .i64 0, .slice none 0 0, .slice none 0 0] 42)
  have hb' := hb.alloc hb.size (.cells #[.int .i64 0, .int .i64 0, .int .i64 0, .int .i64 0, .int .i64 0, .int .i64 0, .slice none 0 0, .int .i64 0, .int .i64 0, .slice none 0 0, .slice none 0 0, .int .i64 0, .int .i64 0, .slice none 0 0, .slice none 0 0, .int .i64 0, .slice none 0 0, .slice none 0 0] 42)
  have HG : Hid (w.heap.size < w1.heap.size) := ka.lt
  have a0 : w1.cell? ⟨w.heap.size, 0, none⟩ = some (.int .i64 3) := ka.at_ (by rw [HC.out]; rfl)
  have a1 : w1.cell? ⟨w.heap.size, 1, none⟩ = some (.int .i64 f) := ka.at_ (by rw [HC.out]; rfl)
  have a2 : w1.cell? ⟨w.heap.size, 2, none⟩ = some (.int .i64 t) := ka.at_ (by rw [HC.out]; rfl)
  go_wp2_with (refine wpList_store_row rfl 42 (.tmp 5) (.tmp 13) rfl _ rfl 42 _ (.agg #[.int .i64 3, .int .i64 f, .int .i64 t, .int .i64 0, .int .i64 0, .int .i64 0, .slice none 0 0, .int .i64 0, .int .i64 0, .slice none 0 0, .slice none 0 0, .int .i64 0, .int .i64 0, .slice none 0 0, .slice none 0 0, .int .i64 0, .slice none 0 0, .slice none 0 0]) rfl kr Try.infoMsg rfl (by simp [Value.cells, Value.oneCell']) ?_)
  intro w2 kr2' hg2
  have kr2 : Blk w2 w1.heap.size 42 #[.int .i64 3, .int .i64 f, .int .i64 t, .int .i64 0, .int .i64 0, .int .i64 0, .slice none 0 0, .int .i64 0, .int .i64 0, .slice none 0 0, .slice none 0 0, .int .i64 0, .int .i64 0, .slice none 0 0, .slice none 0 0, .int .i64 0, .slice none 0 0, .slice none 0 0] := kr2'
  have hb2 : Below w.heap.size w w2 := hb'.grown hg2 hb'.size (fun g e => by injection e with e; have := HG.out; omega)
  have ka2 := ka'.grown hg2 (by intro e; injection e with e; have := HG.out; omega)
  clear ka kr hb ka' hb' a0 a1 a2 hg2 kr2'
  generalize (Value.agg #[.int .i64 3, .int .i64 f, .int .i64 t, .int .i64 0, .int .i64 0, .int .i64 0, .slice none 0 0, .int .i64 0, .int .i64 0, .slice none 0 0, .slice none 0 0, .int .i64 0, .int .i64 0, .slice none 0 0, .slice none 0 0, .int .i64 0, .slice none 0 0, .slice none 0 0]) = V2
  generalize w1.heap.size = g5 at kr2 ka2 HG ⊢
  have a0 : w2.cell? ⟨w.heap.size, 0, none⟩ = some (.int .i64 3) := ka2.at_ (by rw [HC.out]; rfl)
  have a1 : w2.cell? ⟨w.heap.size, 1, none⟩ = some (.int .i64 f) := ka2.at_ (by rw [HC.out]; rfl)
  have a2 : w2.cell? ⟨w.heap.size, 2, none⟩ = some (.int .i64 t) := ka2.at_ (by rw [HC.out]; rfl)
  go_wp2_with fail
  refine (ref2_May n _).mono ?_
  rintro e w' ⟨rfl, rfl⟩
  rw [HI.out]
  have a23 : w2.cell? ⟨w.heap.size, 3, none⟩ = some (.int .i64 d) := ka2.at_ (by rw [HC.out]; rfl)
  have a24 : w2.cell? ⟨w.heap.size, 4, none⟩ = some (.int .i64 ba) := ka2.at_ (by rw [HC.out]; rfl)
  have a25 : w2.cell? ⟨w.heap.size, 5, none⟩ = some (.int .i64 bn) := ka2.at_ (by rw [HC.out]; rfl)
  have a26 : w2.cell? ⟨w.heap.size, 6, none⟩ = some (.slice A1 n1 c1) := ka2.at_ (by rw [HC.out]; rfl)
  have r3 : w2.cell? ⟨g5, 3, none⟩ = some (.int .i64 0) := kr2.at_ rfl
  have f3 := kr2.frozen 3
  have r4 : w2.cell? ⟨g5, 4, none⟩ = some (.int .i64 0) := kr2.at_ rfl
  have f4 := kr2.frozen 4
  have r5 : w2.cell? ⟨g5, 5, none⟩ = some (.int .i64 0) := kr2.at_ rfl
  have f5 := kr2.frozen 5
  have r6 : w2.cell? ⟨g5, 6, none⟩ = some (.slice none 0 0) := kr2.at_ rfl
  have f6 := kr2.frozen 6
  have KK := hide (And.intro ((((kr2.set_ 3 (.int .i64 d)).set_ 4 (.int .i64 ba)).set_ 5 (.int .i64 bn)).set_ 6 (.slice A1 n1 c1)) (And.intro ((((ka2.far (p := ⟨g5, 3, none⟩) (by have := HG.out; intro e; simp only at e; omega) (.int .i64 d)).far (p := ⟨g5, 4, none⟩) (by have := HG.out; intro e; simp only at e; omega) (.int .i64 ba)).far (p := ⟨g5, 5, none⟩) (by have := HG.out; intro e; simp only at e; omega) (.int .i64 bn)).far (p := ⟨g5, 6, none⟩) (by have := HG.out; intro e; simp only at e; omega) (.slice A1 n1 c1)) ((((hb2.setCell (p := ⟨g5, 3, none⟩) (by have := HG.out; show w.heap.size ≤ g5; omega) (.int .i64 d)).setCell (p := ⟨g5, 4, none⟩) (by have := HG.out; show w.heap.size ≤ g5; omega) (.int .i64 ba)).setCell (p := ⟨g5, 5, none⟩) (by have := HG.out; show w.heap.size ≤ g5; omega) (.int .i64 bn)).setCell (p := ⟨g5, 6, none⟩) (by have := HG.out; show w.heap.size ≤ g5; omega) (.slice A1 n1 c1))))
  clear kr2 ka2 hb2
  go_upto_region 8 with fail
  clear e1 e2 e3 e4 e5 a1 a2
  go_region
  go_upto_region 9 with fail
  generalize (((w2.setCell ⟨g5, 3, none⟩ (.int .i64 d)).setCell ⟨g5, 4, none⟩ (.int .i64 ba)).setCell ⟨g5, 5, none⟩ (.int .i64 bn)).setCell ⟨g5, 6, none⟩ (.slice A1 n1 c1) = w3 at KK ⊢
  obtain ⟨kr3, ka3, hb3⟩ := KK.out
  clear KK a0 a23 r3 f3 a24 r4 f4 a25 r5 f5 a26 r6 f6
  have hb3 := hb3.drew
  have kr3 := kr3.drew
  have ka3 := ka3.drew
  generalize w3.drew = w4 at kr3 ka3 hb3 ⊢
  have HS4 := hide (HS0.out.below hb3)
  have b3 : w4.cell? ⟨w.heap.size, 3, none⟩ = some (.int .i64 d) := ka3.at_ (by rw [HC.out]; rfl)
  have b4 : w4.cell? ⟨w.heap.size, 4, none⟩ = some (.int .i64 ba) := ka3.at_ (by rw [HC.out]; rfl)
  have b5 : w4.cell? ⟨w.heap.size, 5, none⟩ = some (.int .i64 bn) := ka3.at_ (by rw [HC.out]; rfl)
  have b6 : w4.cell? ⟨w.heap.size, 6, none⟩ = some (.slice A1 n1 c1) := ka3.at_ (by rw [HC.out]; rfl)
  obtain ⟨pd, HD⟩ : ∃ p, Hid (digO d = p) := ⟨_, rfl⟩
  rw [HD.out] at HR2
  obtain ⟨pb, HPB⟩ : ∃ p, Hid (mayB ba bn l = p) := ⟨_, rfl⟩
  rw [HPB.out] at HR2
  go_wp2_with fail
  refine (ref0_Digest d _).mono ?_
  rintro e w' ⟨rfl, rfl⟩
  rw [HD.out]
  cases pd with
  | false =>
    have kr5 := kr3
    have ka5 := ka3
    have hb5 := hb3
    go_wp2_with fail
    go_ret
    exact ⟨ret_bool (by first | exact HR2.out.symm | (rw [HR2.out]; first | rfl | (have := HN.out; simp; omega) | simp)), hb5⟩
  | true =>
    go_wp2_with fail
    refine (ref4_Batch ba bn _ HS4.out.tx hz1 HTZ.out HPB).mono ?_
    rintro e w5 ⟨rfl, hb4'⟩
    have kr4 := kr3.later hb4'
    have ka4 := ka3.later hb4'
    have hb4 := below_then hb3 hb4'
    have b4 : w5.cell? ⟨w.heap.size, 4, none⟩ = some (.int .i64 ba) := ka4.at_ (by rw [HC.out]; rfl)
    cases pb with
    | false =>
      have kr5 := kr4
      have ka5 := ka4
      have hb5 := hb4
      go_wp2_with fail
      go_ret
      exact ⟨ret_bool (by first | exact HR2.out.symm | (rw [HR2.out]; first | rfl | (have := HN.out; simp; omega) | simp)), hb5⟩
    | true =>
      have kr5 := kr4
      have ka5 := ka4
      have hb5 := hb4
      obtain ⟨FA, HFA⟩ : ∃ FA : Array Value, Hid (FA = #[.int .i64 3, .int .i64 f, .int .i64 t, .int .i64 d, .int .i64 ba, .int .i64 bn, .slice A1 n1 c1, .int .i64 0, .int .i64 0, .slice none 0 0, .slice none 0 0, .int .i64 0, .int .i64 0, .slice none 0 0, .slice none 0 0, .int .i64 0, .slice none 0 0, .slice none 0 0]) := ⟨_, rfl⟩
      have HFS : Hid (FA.size = 18) := by rw [Hid, HFA.out]; rfl
      have HCS : Hid (C.size = 18) := by rw [Hid, HC.out]; rfl
      have kr6 : Blk w5 g5 42 FA := by rw [HFA.out]; exact kr5
      clear kr5
      obtain ⟨pk, HPK⟩ : ∃ p : Bool, Hid (p = (decide (ba ≤ n))) := ⟨_, rfl⟩
      go_upto_region 24 with fail
      refine wp_region_lit ?_
      refine frame_off 136 [(2, .pointer (some ⟨w.heap.size, 0, none⟩)), (5, .pointer (some ⟨g5, 0, none⟩)), (6, .bool pk)] (Frm.start rfl (by intro p hp; simp only [List.mem_cons, List.not_mem_nil, or_false] at hp; rcases hp with rfl | rfl | rfl <;> first | rfl | simp [HPK.out])) (fun a hM => ?_)
      refine seg_cut7 (fun a' w' => Frm a' 136 [(4, .bool (if pk then q else false))] ∧ Hid (Below w.heap.size w w')) (fun K hK => ?_) (fun a' w' hS => ?_)
      · refine seg_move hM rfl (by omega) rfl (.inl rfl) rfl (fun a hM => ?_)
        refine seg_move hM rfl (by omega) rfl (.inl rfl) rfl (fun a hM => ?_)
        cases pk with
        | false =>
          refine seg_skip hM rfl (by omega) rfl rfl rfl rfl (fun a hM => ?_)
          refine seg_skip hM rfl (by omega) rfl rfl rfl rfl (fun a hM => ?_)
          refine seg_skip hM rfl (by omega) rfl rfl rfl rfl (fun a hM => ?_)
          refine seg_pick hM rfl (by omega) rfl rfl rfl rfl (fun a hM => ?_)
          refine seg_move hM rfl (by omega) rfl (.inr rfl) rfl (fun a hM => ?_)
          exact seg_nil (hK _ _ ⟨hM.weak (by intro p hp; simp only [List.mem_cons, List.not_mem_nil, or_false] at hp; subst hp; rfl), hide hb5⟩)
        | true =>
          refine seg_same hM rfl (by omega) rfl rfl rfl (v := .agg FA) (run_load_blk rfl g5 (hM.ev (t := 5) rfl) 42 FA _ kr6 Try.underlying42 rfl (by rw [HFS.out]; exact Try.infoMsg)) (fun a hM => ?_)
          refine seg_same hM rfl (by omega) rfl rfl rfl (v := .agg C) (run_load_blk rfl w.heap.size (hM.ev (t := 2) rfl) 42 C _ ka5 Try.underlying42 rfl (by rw [HCS.out]; exact Try.infoMsg)) (fun a hM => ?_)
          refine seg_callg hM rfl (by omega) rfl rfl rfl (f := 25) (args := #[.agg FA, .agg C]) (by simp only [execOp, resolve, List.map_toArray, List.map_cons, List.map_nil, hM.ev (t := 132) (v := .agg FA) rfl, hM.ev (t := 133) (v := .agg C) rfl]; simp [go_sem, Act.eval]) (ref0_EqMessage (onlyM ⟨3, f, t, d, ⟨ba, bn, l⟩, ⟨ha, hr, hbs, hps⟩, ⟨⟨ca, cr, cbs, cps⟩, cd, ss⟩, ds⟩) ⟨3, f, t, d, ⟨ba, bn, l⟩, ⟨ha, hr, hbs, hps⟩, ⟨⟨ca, cr, cbs, cps⟩, cd, ss⟩, ds⟩ (onlyV 3 ⟨⟨A1, n1, c1⟩, ⟨A2, n2, c2⟩, ⟨A3, n3, c3⟩, ⟨A4, n4, c4⟩, ⟨A5, n5, c5⟩, ⟨A6, n6, c6⟩, ⟨A7, n7, c7⟩⟩) ⟨⟨A1, n1, c1⟩, ⟨A2, n2, c2⟩, ⟨A3, n3, c3⟩, ⟨A4, n4, c4⟩, ⟨A5, n5, c5⟩, ⟨A6, n6, c6⟩, ⟨A7, n7, c7⟩⟩ _ (hide (HS0.out.only.below hb5)) (hide HZ0.out.only) (hide (HS0.out.below hb5)) HZ0 (by rw [Hid, HFA.out]; simp [msC, onlyM, onlyV, hasB, hasD, hasH, hasC, hasS, zB, zH, zC, nilV, SlV.v]) (by rw [Hid, HC.out]; rfl) HQ) (fun a wd hM hbd => ?_)
          refine seg_pick hM rfl (by omega) rfl rfl rfl rfl (fun a hM => ?_)
          refine seg_move hM rfl (by omega) rfl (.inr rfl) rfl (fun a hM => ?_)
          exact seg_nil (hK _ _ ⟨hM.weak (by intro p hp; simp only [List.mem_cons, List.not_mem_nil, or_false] at hp; subst hp; rfl), hide (below_then hb5 hbd)⟩)
      obtain ⟨hM, HBE⟩ := hS
      refine wpList_nil ?_
      simp only [Exit.then]
      go_step
      apply wp_ret
      refine bodyPost_ret (results_tmp rfl _ _ _) hM.2.1 ?_
      rw [show a'.tmps.getD 4 undef = .bool (if pk then q else false) from hM.ev (t := 4) rfl]
      exact ⟨ret_bool (by rw [HR2.out, ← HPK.out]; cases pk <;> rfl), HBE.out⟩
set_option maxRecDepth 100000 in
set_option maxHeartbeats 4000000 in
theorem refM_4 {A1 A2 A3 A4 A5 A6 A7 : Option Addr} {n1 c1 n2 c2 n3 c3 n4 c4 n5 c5 n6 c6 n7 c7 : Nat} (n f t d ba bn ha hr ca cr cd : Int) (l : List TxD) (hbs hps cbs cps ss ds : List Int) (w : World)
    (HS0 : Hid (MsS w ⟨4, f, t, d, ⟨ba, bn, l⟩, ⟨ha, hr, hbs, hps⟩, ⟨⟨ca, cr, cbs, cps⟩, cd, ss⟩, ds⟩ ⟨⟨A1, n1, c1⟩, ⟨A2, n2, c2⟩, ⟨A3, n3, c3⟩, ⟨A4, n4, c4⟩, ⟨A5, n5, c5⟩, ⟨A6, n6, c6⟩, ⟨A7, n7, c7⟩⟩)) (HZ0 : Hid (MsZ ⟨4, f, t, d, ⟨ba, bn, l⟩, ⟨ha, hr, hbs, hps⟩, ⟨⟨ca, cr, cbs, cps⟩, cd, ss⟩, ds⟩ ⟨⟨A1, n1, c1⟩, ⟨A2, n2, c2⟩, ⟨A3, n3, c3⟩, ⟨A4, n4, c4⟩, ⟨A5, n5, c5⟩, ⟨A6, n6, c6⟩, ⟨A7, n7, c7⟩⟩)) (HTZ : Hid (TxZ l))
    (hz1 : n1 ≤ 9223372036854775807) (hz2 : n2 ≤ 9223372036854775807) (hz3 : n3 ≤ 9223372036854775807) (hz4 : n4 ≤ 9223372036854775807) (hz5 : n5 ≤ 9223372036854775807) (hz6 : n6 ≤ 9223372036854775807) (hz7 : n7 ≤ 9223372036854775807) (HP : Hid (pairM n ⟨4, f, t, d, ⟨ba, bn, l⟩, ⟨ha, hr, hbs, hps⟩, ⟨⟨ca, cr, cbs, cps⟩, cd, ss⟩, ds⟩ = true)) {q r : Bool} (HQ : Hid (decide (onlyM ⟨4, f, t, d, ⟨ba, bn, l⟩, ⟨ha, hr, hbs, hps⟩, ⟨⟨ca, cr, cbs, cps⟩, cd, ss⟩, ds⟩ = ⟨4, f, t, d, ⟨ba, bn, l⟩, ⟨ha, hr, hbs, hps⟩, ⟨⟨ca, cr, cbs, cps⟩, cd, ss⟩, ds⟩) = q)) (HR2 : Hid (r = (digO d && (mayH n ⟨ha, hr, hbs, hps⟩ && (ha == f)) && q))) {C : Array Value} (HC : Hid (C = #[.int .i64 4, .int .i64 f, .int .i64 t, .int .i64 d, .int .i64 ba, .int .i64 bn, .slice A1 n1 c1, .int .i64 ha, .int .i64 hr, .slice A2 n2 c2, .slice A3 n3 c3, .int .i64 ca, .int .i64 cr, .slice A4 n4 c4, .slice A5 n5 c5, .int .i64 cd, .slice A6 n6 c6, .slice A7 n7 c7])) :
    Calls Try.prog 29 #[.agg C, .int .i64 n] w fun e w' => e = .returned (.bool r) ∧ Below w.heap.size w w' := by
  obtain ⟨hI, ⟨hf1, hf2⟩, ⟨ht1, ht2⟩, hft⟩ := pairM_iff.1 HP.out
  simp only at hf1 hf2 ht1 ht2 hft
  have HI : Hid (isC n = true) := hI
  have e5 : (f == t) = false := by simpa using hft
  have e1 : decide (f < 1) = false := by rw [decide_eq_false_iff_not]; omega
  have e2 : decide (n < f) = false := by rw [decide_eq_false_iff_not]; omega
  have e3 : decide (t < 1) = false := by rw [decide_eq_false_iff_not]; omega
  have e4 : decide (n < t) = false := by rw [decide_eq_false_iff_not]; omega
  have HFT := hide (And.intro (And.intro hf1 hf2) (And.intro (And.intro ht1 ht2) hft))
  clear HP hf1 hf2 ht1 ht2 hft hI
  go_enter Try.func29, Try.ntmps29
  go_upto_region 1 with fail
  have ka := Blk.new w 42 C
  have hb := below_alloc' w (.cells C 42)
  generalize w.alloc (.cells C 42) = w1 at ka hb ⊢
  have kr := Blk.new w1 42 #[.int .i64 0, .int .i64 0, .int .i64 0, .int .i64 0, .int .i64 0, .int .i64 0, .slice none 0 0, .int .i64 0, .int .i64 0, .slice none 0 0, .slice none 0 0, .int .i64 0, .int .i64 0, .slice none 0 0, .slice none 0 0, .int .i64 0, .slice none 0 0, .slice none 0 0]
  have ka' := ka.alloc (.cells #[.int .i64 0, .int .i64 0, .int .i64 0, .int .i64 0, .int .i64 0, .int .i64 0, .slice none 0 0, .int .i64 0, .int .i64 0, .slice none 0 0, .slice none 0 0, .int .i64 0, .int .i64 0, .slice none 0 0, .slice none 0 0, .int .i64 0, .slice none 0 0, .slice none 0 0] 42)
  have hb' := hb.alloc hb.size (.cells #[.int .i64 0, .int .i64 0, .int .i64 0, .int .i64 0, .int .i64 0, .int .i64 0, .slice none 0 0, .int .i64 0, .int .i64 0, .slice none 0 0, .slice none 0 0, .int .i64 0, .int .i64 0, .slice none 0 0, .slice none 0 0, .int .i64 0, .slice none 0 0, .slice none 0 0] 42)
  have HG : Hid (w.heap.size < w1.heap.size) := ka.lt
  have a0 : w1.cell? ⟨w.heap.size, 0, none⟩ = some (.int .i64 4) := ka.at_ (by rw [HC.out]; rfl)
  have a1 : w1.cell? ⟨w.heap.size, 1, none⟩ = some (.int .i64 f) := ka.at_ (by rw [HC.out]; rfl)
  have a2 : w1.cell? ⟨w.heap.size, 2, none⟩ = some (.int .i64 t) := ka.at_ (by rw [HC.out]; rfl)
  go_wp2_with (refine wpList_store_row rfl 42 (.tmp 5) (.tmp 13) rfl _ rfl 42 _ (.agg #[.int .i64 4, .int .i64 f, .int .i64 t, .int .i64 0, .int .i64 0, .int .i64 0, .slice none 0 0, .int .i64 0, .int .i64 0, .slice none 0 0, .slice none 0 0, .int .i64 0, .int .i64 0, .slice none 0 0, .slice none 0 0, .int .i64 0, .slice none 0 0, .slice none 0 0]) rfl kr Try.infoMsg rfl (by simp [Value.cells, Value.oneCell']) ?_)
  intro w2 kr2' hg2
  have kr2 : Blk w2 w1.heap.size 42 #[.int .i64 4, .int .i64 f, .int .i64 t, .int .i64 0, .int .i64 0, .int .i64 0, .slice none 0 0, .int .i64 0, .int .i64 0, .slice none 0 0, .slice none 0 0, .int .i64 0, .int .i64 0, .slice none 0 0, .slice none 0 0, .int .i64 0, .slice none 0 0, .slice none 0 0] := kr2'
  have hb2 : Below w.heap.size w w2 := hb'.grown hg2 hb'.size (fun g e => by injection e with e; have := HG.out; omega)
  have ka2 := ka'.grown hg2 (by intro e; injection e with e; have := HG.out; omega)
  clear ka kr hb ka' hb' a0 a1 a2 hg2 kr2'
  generalize (Value.agg #[.int .i64 4, .int .i64 f, .int .i64 t, .int .i64 0, .int .i64 0, .int .i64 0, .slice none 0 0, .int .i64 0, .int .i64 0, .slice none 0 0, .slice none 0 0, .int .i64 0, .int .i64 0, .slice none 0 0, .slice none 0 0, .int .i64 0, .slice none 0 0, .slice none 0 0]) = V2
  generalize w1.heap.size = g5 at kr2 ka2 HG ⊢
  have a0 : w2.cell? ⟨w.heap.size, 0, none⟩ = some (.int .i64 4) := ka2.at_ (by rw [HC.out]; rfl)
  have a1 : w2.cell? ⟨w.heap.size, 1, none⟩ = some (.int .i64 f) := ka2.at_ (by rw [HC.out]; rfl)
  have a2 : w2.cell? ⟨w.heap.size, 2, none⟩ = some (.int .i64 t) := ka2.at_ (by rw [HC.out]; rfl)
  go_wp2_with fail
  refine (ref2_May n _).mono ?_
  rintro e w' ⟨rfl, rfl⟩
  rw [HI.out]
  have a23 : w2.cell? ⟨w.heap.size, 3, none⟩ = some (.int .i64 d) := ka2.at_ (by rw [HC.out]; rfl)
  have a27 : w2.cell? ⟨w.heap.size, 7, none⟩ = some (.int .i64 ha) := ka2.at_ (by rw [HC.out]; rfl)
  have a28 : w2.cell? ⟨w.heap.size, 8, none⟩ = some (.int .i64 hr) := ka2.at_ (by rw [HC.out]; rfl)
  have a29 : w2.cell? ⟨w.heap.size, 9, none⟩ = some (.slice A2 n2 c2) := ka2.at_ (by rw [HC.out]; rfl)
  have a30 : w2.cell? ⟨w.heap.size, 10, none⟩ = some (.slice A3 n3 c3) := ka2.at_ (by rw [HC.out]; rfl)
  have r3 : w2.cell? ⟨g5, 3, none⟩ = some (.int .i64 0) := kr2.at_ rfl
  have f3 := kr2.frozen 3
  have r7 : w2.cell? ⟨g5, 7, none⟩ = some (.int .i64 0) := kr2.at_ rfl
  have f7 := kr2.frozen 7
  have r8 : w2.cell? ⟨g5, 8, none⟩ = some (.int .i64 0) := kr2.at_ rfl
  have f8 := kr2.frozen 8
  have r9 : w2.cell? ⟨g5, 9, none⟩ = some (.slice none 0 0) := kr2.at_ rfl
  have f9 := kr2.frozen 9
  have r10 : w2.cell? ⟨g5, 10, none⟩ = some (.slice none 0 0) := kr2.at_ rfl
  have f10 := kr2.frozen 10
  have KK := hide (And.intro (((((kr2.set_ 3 (.int .i64 d)).set_ 7 (.int .i64 ha)).set_ 8 (.int .i64 hr)).set_ 9 (.slice A2 n2 c2)).set_ 10 (.slice A3 n3 c3)) (And.intro (((((ka2.far (p := ⟨g5, 3, none⟩) (by have := HG.out; intro e; simp only at e; omega) (.int .i64 d)).far (p := ⟨g5, 7, none⟩) (by have := HG.out; intro e; simp only at e; omega) (.int .i64 ha)).far (p := ⟨g5, 8, none⟩) (by have := HG.out; intro e; simp only at e; omega) (.int .i64 hr)).far (p := ⟨g5, 9, none⟩) (by have := HG.out; intro e; simp only at e; omega) (.slice A2 n2 c2)).far (p := ⟨g5, 10, none⟩) (by have := HG.out; intro e; simp only at e; omega) (.slice A3 n3 c3)) (((((hb2.setCell (p := ⟨g5, 3, none⟩) (by have := HG.out; show w.heap.size ≤ g5; omega) (.int .i64 d)).setCell (p := ⟨g5, 7, none⟩) (by have := HG.out; show w.heap.size ≤ g5; omega) (.int .i64 ha)).setCell (p := ⟨g5, 8, none⟩) (by have := HG.out; show w.heap.size ≤ g5; omega) (.int .i64 hr)).setCell (p := ⟨g5, 9, none⟩) (by have := HG.out; show w.heap.size ≤ g5; omega) (.slice A2 n2 c2)).setCell (p := ⟨g5, 10, none⟩) (by have := HG.out; show w.heap.size ≤ g5; omega) (.slice A3 n3 c3))))
  clear kr2 ka2 hb2
  go_upto_region 15 with fail
  clear e1 e2 e3 e4 e5 a1 a2
  go_region
  go_upto_region 16 with fail
  generalize ((((w2.setCell ⟨g5, 3, none⟩ (.int .i64 d)).setCell ⟨g5, 7, none⟩ (.int .i64 ha)).setCell ⟨g5, 8, none⟩ (.int .i64 hr)).setCell ⟨g5, 9, none⟩ (.slice A2 n2 c2)).setCell ⟨g5, 10, none⟩ (.slice A3 n3 c3) = w3 at KK ⊢
  obtain ⟨kr3, ka3, hb3⟩ := KK.out
  clear KK a0 a23 r3 f3 a27 r7 f7 a28 r8 f8 a29 r9 f9 a30 r10 f10
  have hb3 := hb3.drew
  have kr3 := kr3.drew
  have ka3 := ka3.drew
  generalize w3.drew = w4 at kr3 ka3 hb3 ⊢
  have HS4 := hide (HS0.out.below hb3)
  have b1 : w4.cell? ⟨w.heap.size, 1, none⟩ = some (.int .i64 f) := ka3.at_ (by rw [HC.out]; rfl)
  have b3 : w4.cell? ⟨w.heap.size, 3, none⟩ = some (.int .i64 d) := ka3.at_ (by rw [HC.out]; rfl)
  have b7 : w4.cell? ⟨w.heap.size, 7, none⟩ = some (.int .i64 ha) := ka3.at_ (by rw [HC.out]; rfl)
  have b8 : w4.cell? ⟨w.heap.size, 8, none⟩ = some (.int .i64 hr) := ka3.at_ (by rw [HC.out]; rfl)
  have b9 : w4.cell? ⟨w.heap.size, 9, none⟩ = some (.slice A2 n2 c2) := ka3.at_ (by rw [HC.out]; rfl)
  have b10 : w4.cell? ⟨w.heap.size, 10, none⟩ = some (.slice A3 n3 c3) := ka3.at_ (by rw [HC.out]; rfl)
  obtain ⟨pd, HD⟩ : ∃ p, Hid (digO d = p) := ⟨_, rfl⟩
  rw [HD.out] at HR2
  obtain ⟨pb, HPB⟩ : ∃ p, Hid (mayH n ⟨ha, hr, hbs, hps⟩ = p) := ⟨_, rfl⟩
  rw [HPB.out] at HR2
  go_wp2_with fail
  refine (ref0_Digest d _).mono ?_
  rintro e w' ⟨rfl, rfl⟩
  rw [HD.out]
  cases pd with
  | false =>
    have kr5 := kr3
    have ka5 := ka3
    have hb5 := hb3
    go_wp2_with fail
    go_ret
    exact ⟨ret_bool (by first | exact HR2.out.symm | (rw [HR2.out]; first | rfl | (have := HN.out; simp; omega) | simp)), hb5⟩
  | true =>
    go_wp2_with fail
    refine (ref4_Header n ⟨ha, hr, hbs, hps⟩ _ HS4.out.hb HS4.out.hp hz2 hz3 HPB).mono ?_
    rintro e w5 ⟨rfl, hb4'⟩
    have kr4 := kr3.later hb4'
    have ka4 := ka3.later hb4'
    have hb4 := below_then hb3 hb4'
    have b7 : w5.cell? ⟨w.heap.size, 7, none⟩ = some (.int .i64 ha) := ka4.at_ (by rw [HC.out]; rfl)
    have b1 : w5.cell? ⟨w.heap.size, 1, none⟩ = some (.int .i64 f) := ka4.at_ (by rw [HC.out]; rfl)
    cases pb with
    | false =>
      have kr5 := kr4
      have ka5 := ka4
      have hb5 := hb4
      go_wp2_with fail
      go_ret
      exact ⟨ret_bool (by first | exact HR2.out.symm | (rw [HR2.out]; first | rfl | (have := HN.out; simp; omega) | simp)), hb5⟩
    | true =>
      have kr5 := kr4
      have ka5 := ka4
      have hb5 := hb4
      obtain ⟨FA, HFA⟩ : ∃ FA : Array Value, Hid (FA = #[.int .i64 4, .int .i64 f, .int .i64 t, .int .i64 d, .int .i64 0, .int .i64 0, .slice none 0 0, .int .i64 ha, .int .i64 hr, .slice A2 n2 c2, .slice A3 n3 c3, .int .i64 0, .int .i64 0, .slice none 0 0, .slice none 0 0, .int .i64 0, .slice none 0 0, .slice none 0 0]) := ⟨_, rfl⟩
      have HFS : Hid (FA.size = 18) := by rw [Hid, HFA.out]; rfl
      have HCS : Hid (C.size = 18) := by rw [Hid, HC.out]; rfl
      have kr6 : Blk w5 g5 42 FA := by rw [HFA.out]; exact kr5
      clear kr5
      obtain ⟨pk, HPK⟩ : ∃ p : Bool, Hid (p = (ha == f)) := ⟨_, rfl⟩
      go_upto_region 24 with fail
      refine wp_region_lit ?_
      refine frame_off 136 [(2, .pointer (some ⟨w.heap.size, 0, none⟩)), (5, .pointer (some ⟨g5, 0, none⟩)), (6, .bool pk)] (Frm.start rfl (by intro p hp; simp only [List.mem_cons, List.not_mem_nil, or_false] at hp; rcases hp with rfl | rfl | rfl <;> first | rfl | simp [HPK.out])) (fun a hM => ?_)
      refine seg_cut7 (fun a' w' => Frm a' 136 [(4, .bool (if pk then q else false))] ∧ Hid (Below w.heap.size w w')) (fun K hK => ?_) (fun a' w' hS => ?_)
      · refine seg_move hM rfl (by omega) rfl (.inl rfl) rfl (fun a hM => ?_)
        refine seg_move hM rfl (by omega) rfl (.inl rfl) rfl (fun a hM => ?_)
        cases pk with
        | false =>
          refine seg_skip hM rfl (by omega) rfl rfl rfl rfl (fun a hM => ?_)
          refine seg_skip hM rfl (by omega) rfl rfl rfl rfl (fun a hM => ?_)
          refine seg_skip hM rfl (by omega) rfl rfl rfl rfl (fun a hM => ?_)
          refine seg_pick hM rfl (by omega) rfl rfl rfl rfl (fun a hM => ?_)
          refine seg_move hM rfl (by omega) rfl (.inr rfl) rfl (fun a hM => ?_)
          exact seg_nil (hK _ _ ⟨hM.weak (by intro p hp; simp only [List.mem_cons, List.not_mem_nil, or_false] at hp; subst hp; rfl), hide hb5⟩)
        | true =>
          refine seg_same hM rfl (by omega) rfl rfl rfl (v := .agg FA) (run_load_blk rfl g5 (hM.ev (t := 5) rfl) 42 FA _ kr6 Try.underlying42 rfl (by rw [HFS.out]; exact Try.infoMsg)) (fun a hM => ?_)
          refine seg_same hM rfl (by omega) rfl rfl rfl (v := .agg C) (run_load_blk rfl w.heap.size (hM.ev (t := 2) rfl) 42 C _ ka5 Try.underlying42 rfl (by rw [HCS.out]; exact Try.infoMsg)) (fun a hM => ?_)
          refine seg_callg hM rfl (by omega) rfl rfl rfl (f := 25) (args := #[.agg FA, .agg C]) (by simp only [execOp, resolve, List.map_toArray, List.map_cons, List.map_nil, hM.ev (t := 132) (v := .agg FA) rfl, hM.ev (t := 133) (v := .agg C) rfl]; simp [go_sem, Act.eval]) (ref0_EqMessage (onlyM ⟨4, f, t, d, ⟨ba, bn, l⟩, ⟨ha, hr, hbs, hps⟩, ⟨⟨ca, cr, cbs, cps⟩, cd, ss⟩, ds⟩) ⟨4, f, t, d, ⟨ba, bn, l⟩, ⟨ha, hr, hbs, hps⟩, ⟨⟨ca, cr, cbs, cps⟩, cd, ss⟩, ds⟩ (onlyV 4 ⟨⟨A1, n1, c1⟩, ⟨A2, n2, c2⟩, ⟨A3, n3, c3⟩, ⟨A4, n4, c4⟩, ⟨A5, n5, c5⟩, ⟨A6, n6, c6⟩, ⟨A7, n7, c7⟩⟩) ⟨⟨A1, n1, c1⟩, ⟨A2, n2, c2⟩, ⟨A3, n3, c3⟩, ⟨A4, n4, c4⟩, ⟨A5, n5, c5⟩, ⟨A6, n6, c6⟩, ⟨A7, n7, c7⟩⟩ _ (hide (HS0.out.only.below hb5)) (hide HZ0.out.only) (hide (HS0.out.below hb5)) HZ0 (by rw [Hid, HFA.out]; simp [msC, onlyM, onlyV, hasB, hasD, hasH, hasC, hasS, zB, zH, zC, nilV, SlV.v]) (by rw [Hid, HC.out]; rfl) HQ) (fun a wd hM hbd => ?_)
          refine seg_pick hM rfl (by omega) rfl rfl rfl rfl (fun a hM => ?_)
          refine seg_move hM rfl (by omega) rfl (.inr rfl) rfl (fun a hM => ?_)
          exact seg_nil (hK _ _ ⟨hM.weak (by intro p hp; simp only [List.mem_cons, List.not_mem_nil, or_false] at hp; subst hp; rfl), hide (below_then hb5 hbd)⟩)
      obtain ⟨hM, HBE⟩ := hS
      refine wpList_nil ?_
      simp only [Exit.then]
      go_step
      apply wp_ret
      refine bodyPost_ret (results_tmp rfl _ _ _) hM.2.1 ?_
      rw [show a'.tmps.getD 4 undef = .bool (if pk then q else false) from hM.ev (t := 4) rfl]
      exact ⟨ret_bool (by rw [HR2.out, ← HPK.out]; cases pk <;> rfl), HBE.out⟩
end Go.Proofs.Ytebaojcfmkobjaa
