/-
  Contracts: message.May.
-/
import Derived.Test.YtebaojcfmkobjaaMsgO
import Derived.Test.YtebaojcfmkobjaaGr00
import Derived.Deep.DeepCutAuto
set_option linter.unusedVariables false
set_option linter.unusedSimpArgs false
namespace Go.Proofs.Ytebaojcfmkobjaa
open Go.RowKit

theorem eq_by {P : Program} {f : FuncId} {args : Array Value} {w : World} {R : World → Prop} {p q : Bool} (hp : p = q) (h : Calls P f args w fun e w' => e = .returned (.bool p) ∧ R w') : Calls P f args w fun e w' => e = .returned (.bool q) ∧ R w' := by
  rw [← hp]; exact h
set_option maxRecDepth 100000 in
set_option maxHeartbeats 4000000 in
theorem message_May (n : Int) (x : MsD) (v : MsV) (w : World) (HS : Hid (MsS w x v)) (HZ : Hid (MsZ x v)) {C : Array Value} (HC : Hid (C = msC x v)) {r : Bool} (hr : Hid (mayM n x = r)) :
    Calls Try.prog 43 #[.agg C, .int .i64 n] w fun e w' => e = .returned (.bool r) ∧ Below w.heap.size w w' := by
  have ka := Blk.new w 42 C
  have hb := below_alloc' w (.cells C 42)
  have HCS : Hid (C.size = 18) := by rw [Hid, HC.out]; rfl
  obtain ⟨p, HP⟩ : ∃ p, Hid (pairM n x = p) := ⟨_, rfl⟩
  obtain ⟨pI, HI⟩ : ∃ p, Hid (isC n = p) := ⟨_, rfl⟩
  have HPI := hide HP.out
  rw [Hid, pairM, HI.out] at HPI
  have HPI := hide HPI
  have HKA := hide ka
  have HB := hide hb
  clear ka hb
  cases p with
  | false =>
    have HR : Hid (r = false) := by rw [Hid, ← hr.out, mayM, HP.out]; rfl
    clear HP
    have c1 : (w.alloc (.cells C 42)).cell? ⟨w.heap.size, 1, none⟩ = some (.int .i64 x.f) := HKA.out.at_ (by rw [HC.out]; rfl)
    have c2 : (w.alloc (.cells C 42)).cell? ⟨w.heap.size, 2, none⟩ = some (.int .i64 x.t) := HKA.out.at_ (by rw [HC.out]; rfl)
    go_enter Try.func43, Try.ntmps43
    go_upto_region 1 with fail
    generalize w.alloc (.cells C 42) = w1 at HKA HB c1 c2 ⊢
    go_wp2_with fail
    refine (com_Is n _).mono ?_
    rintro e w' ⟨rfl, rfl⟩
    rw [HI.out]
    cases pI with
    | false =>
      go_wp2_with fail
      go_ret
      exact ⟨ret_bool HR.out.symm, HB.out⟩
    | true =>
      have HN : Hid (¬ ((1 ≤ x.f ∧ x.f ≤ n) ∧ (1 ≤ x.t ∧ x.t ≤ n) ∧ x.f ≠ x.t)) := by
        rintro ⟨⟨q1, q2⟩, ⟨q3, q4⟩, q5⟩
        have h0 := HPI.out
        simp [q1, q2, q3, q4, q5] at h0
      go_wp2_with fail
      all_goals first
        | (go_ret; exact ⟨ret_bool HR.out.symm, HB.out⟩)
        | (exfalso; apply HN.out; refine ⟨⟨by omega, by omega⟩, ⟨by omega, by omega⟩, fun h => by simp_all⟩)
  | true =>
    have hpI : pI = true := by have := HPI.out; cases pI <;> simp_all
    subst hpI
    obtain ⟨_, ⟨hf1, hf2⟩, ⟨ht1, ht2⟩, hft⟩ := pairM_iff.1 HP.out
    obtain ⟨y, HY⟩ : ∃ y, Hid (onlyM x = y) := ⟨_, rfl⟩
    obtain ⟨u, HU⟩ : ∃ u, Hid (onlyV x.k v = u) := ⟨_, rfl⟩
    have HT := hide (may_tests HS.out HP.out HY.out HU.out)
    rw [hr.out] at HT
    have HFT : Hid (x.f ≠ x.t) := hft
    have e5 : (x.f == x.t) = false := by simpa using hft
    have e1 : decide (x.f < 1) = false := by rw [decide_eq_false_iff_not]; omega
    have e2 : decide (n < x.f) = false := by rw [decide_eq_false_iff_not]; omega
    have e3 : decide (x.t < 1) = false := by rw [decide_eq_false_iff_not]; omega
    have e4 : decide (n < x.t) = false := by rw [decide_eq_false_iff_not]; omega
    clear HP HPI hr hft
    have c1 : (w.alloc (.cells C 42)).cell? ⟨w.heap.size, 1, none⟩ = some (.int .i64 x.f) := HKA.out.at_ (by rw [HC.out]; rfl)
    have c2 : (w.alloc (.cells C 42)).cell? ⟨w.heap.size, 2, none⟩ = some (.int .i64 x.t) := HKA.out.at_ (by rw [HC.out]; rfl)
    have s1 := hide (HS.out.below HB.out)
    go_enter Try.func43, Try.ntmps43
    go_upto_region 1 with fail
    generalize w.alloc (.cells C 42) = w1 at HKA HB s1 c1 c2 ⊢
    go_wp2_with fail
    refine (com_Is n _).mono ?_
    rintro e w' ⟨rfl, rfl⟩
    rw [HI.out]
    go_upto_region 3 with fail
    have ka := HKA.out
    go_wp2_with (refine wpList_load_blk rfl 42 (.tmp 2) rfl _ rfl 42 C _ ka Try.underlying42 rfl (by rw [HCS.out]; exact Try.infoMsg) ?_)
    refine (message_only n x v _ s1 HZ HC).mono ?_
    rintro e w2 ⟨D, rfl, HD, hb2⟩
    rw [HY.out, HU.out] at HD
    have HDS : Hid (D.size = 18) := by rw [Hid, HD.out]; rfl
    have HD1 : Hid (∀ z ∈ D.toList, z.oneCell' = true) := by rw [Hid, HD.out]; simp [msC, SlV.v, Value.oneCell']
    have kd := Blk.new w2 42 #[.int .i64 0, .int .i64 0, .int .i64 0, .int .i64 0, .int .i64 0, .int .i64 0, .slice none 0 0, .int .i64 0, .int .i64 0, .slice none 0 0, .slice none 0 0, .int .i64 0, .int .i64 0, .slice none 0 0, .slice none 0 0, .int .i64 0, .slice none 0 0, .slice none 0 0]
    have ka2 := (ka.later hb2).alloc (.cells #[.int .i64 0, .int .i64 0, .int .i64 0, .int .i64 0, .int .i64 0, .int .i64 0, .slice none 0 0, .int .i64 0, .int .i64 0, .slice none 0 0, .slice none 0 0, .int .i64 0, .int .i64 0, .slice none 0 0, .slice none 0 0, .int .i64 0, .slice none 0 0, .slice none 0 0] 42)
    have hbb := (below_then HB.out hb2).alloc (below_then HB.out hb2).size (.cells #[.int .i64 0, .int .i64 0, .int .i64 0, .int .i64 0, .int .i64 0, .int .i64 0, .slice none 0 0, .int .i64 0, .int .i64 0, .slice none 0 0, .slice none 0 0, .int .i64 0, .int .i64 0, .slice none 0 0, .slice none 0 0, .int .i64 0, .slice none 0 0, .slice none 0 0] 42)
    have HG : Hid (w.heap.size ≠ w2.heap.size ∧ w.heap.size ≤ w2.heap.size) := by have h1 := (ka.later hb2).lt; exact ⟨by omega, by omega⟩
    clear c1 c2 ka HB HKA s1 hb2
    go_wp2_with (refine wpList_store_row rfl 42 (.tmp 5) (.tmp 43) rfl _ rfl 42 _ (.agg D) rfl kd (by rw [show (Value.agg D).cells = D from rfl, HDS.out]; exact Try.infoMsg) (by rw [show (Value.agg D).cells = D from rfl, HDS.out]; rfl) HD1.out ?_)
    intro w3 kd3' hg3
    have kd3 : Blk w3 w2.heap.size 42 D := kd3'
    have hb3 : Below w.heap.size w w3 := hbb.grown hg3 hbb.size (fun g e => by injection e with e; have := HG.out; omega)
    have ka3 := ka2.grown hg3 (by intro e; injection e with e; exact HG.out.1 e)
    obtain ⟨b0, HB0⟩ : ∃ b, Hid (okM n x = b) := ⟨_, rfl⟩
    rw [HB0.out] at HT ⊢
    generalize w2.heap.size = g2 at kd3 HG ⊢
    clear kd ka2 hbb hg3 kd3' hf1 hf2 ht1 ht2 e1 e2 e3 e4 e5 HFT

    have HB3 := hide hb3
    clear hb3 HG
    obtain ⟨b1, HB11⟩ : ∃ b, Hid ((x.d == y.d) = b) := ⟨_, rfl⟩
    obtain ⟨b2, HB12⟩ : ∃ b, Hid ((x.b.a == y.b.a) = b) := ⟨_, rfl⟩
    obtain ⟨b3, HB13⟩ : ∃ b, Hid ((x.b.n == y.b.n) = b) := ⟨_, rfl⟩
    obtain ⟨b4, HB14⟩ : ∃ b, Hid ((v.tx.n == u.tx.n) = b) := ⟨_, rfl⟩
    obtain ⟨b5, HB15⟩ : ∃ b, Hid (decide (x.h.a = y.h.a ∧ x.h.r = y.h.r ∧ v.hb.n = u.hb.n ∧ v.hp.n = u.hp.n) = b) := ⟨_, rfl⟩
    obtain ⟨b6, HB16⟩ : ∃ b, Hid (decide (x.c.h.a = y.c.h.a ∧ x.c.h.r = y.c.h.r ∧ v.cb.n = u.cb.n ∧ v.cp.n = u.cp.n) = b) := ⟨_, rfl⟩
    obtain ⟨b7, HB17⟩ : ∃ b, Hid ((x.c.d == y.c.d) = b) := ⟨_, rfl⟩
    obtain ⟨b8, HB18⟩ : ∃ b, Hid ((v.cs.n == u.cs.n) = b) := ⟨_, rfl⟩
    obtain ⟨b9, HB19⟩ : ∃ b, Hid ((v.ds.n == u.ds.n) = b) := ⟨_, rfl⟩
    rw [HB11.out, HB12.out, HB13.out, HB14.out, HB15.out, HB16.out, HB17.out, HB18.out, HB19.out] at HT
    have HKA3 := hide ka3
    have HKD3 := hide kd3
    clear ka3 kd3
    go_upto_region 4 with fail
    have HQX : Hid (∀ W, Below w3.heap.size w3 W → ∀ j z, C[j]? = some z → W.cell? ⟨w.heap.size, j, none⟩ = some z) := fun W hW j z h => (HKA3.out.later hW).at_ h
    have HQY : Hid (∀ W, Below w3.heap.size w3 W → ∀ j z, D[j]? = some z → W.cell? ⟨g2, j, none⟩ = some z) := fun W hW j z h => (HKD3.out.later hW).at_ h
    have fa_25_0 : ∀ (g o : Nat) (W : World), (Instr.fieldAt 36 (.pointer (some ⟨g, o, none⟩)) 0).run Try.prog W = .ok (.pointer (some ⟨g, o + 0, none⟩)) W := fun g o W => by simp [go_sem]
    have fa_25_1 : ∀ (g o : Nat) (W : World), (Instr.fieldAt 36 (.pointer (some ⟨g, o, none⟩)) 1).run Try.prog W = .ok (.pointer (some ⟨g, o + 1, none⟩)) W := fun g o W => by simp [go_sem]
    have fa_25_2 : ∀ (g o : Nat) (W : World), (Instr.fieldAt 36 (.pointer (some ⟨g, o, none⟩)) 2).run Try.prog W = .ok (.pointer (some ⟨g, o + 2, none⟩)) W := fun g o W => by simp [go_sem]
    have fa_30_0 : ∀ (g o : Nat) (W : World), (Instr.fieldAt 40 (.pointer (some ⟨g, o, none⟩)) 0).run Try.prog W = .ok (.pointer (some ⟨g, o + 0, none⟩)) W := fun g o W => by simp [go_sem]
    have fa_30_1 : ∀ (g o : Nat) (W : World), (Instr.fieldAt 40 (.pointer (some ⟨g, o, none⟩)) 1).run Try.prog W = .ok (.pointer (some ⟨g, o + 4, none⟩)) W := fun g o W => by simp [go_sem]
    have fa_30_2 : ∀ (g o : Nat) (W : World), (Instr.fieldAt 40 (.pointer (some ⟨g, o, none⟩)) 2).run Try.prog W = .ok (.pointer (some ⟨g, o + 5, none⟩)) W := fun g o W => by simp [go_sem]
    have fa_32_3 : ∀ (g o : Nat) (W : World), (Instr.fieldAt 42 (.pointer (some ⟨g, o, none⟩)) 3).run Try.prog W = .ok (.pointer (some ⟨g, o + 3, none⟩)) W := fun g o W => by simp [go_sem]
    have fa_32_4 : ∀ (g o : Nat) (W : World), (Instr.fieldAt 42 (.pointer (some ⟨g, o, none⟩)) 4).run Try.prog W = .ok (.pointer (some ⟨g, o + 4, none⟩)) W := fun g o W => by simp [go_sem]
    have fa_32_5 : ∀ (g o : Nat) (W : World), (Instr.fieldAt 42 (.pointer (some ⟨g, o, none⟩)) 5).run Try.prog W = .ok (.pointer (some ⟨g, o + 7, none⟩)) W := fun g o W => by simp [go_sem]
    have fa_32_6 : ∀ (g o : Nat) (W : World), (Instr.fieldAt 42 (.pointer (some ⟨g, o, none⟩)) 6).run Try.prog W = .ok (.pointer (some ⟨g, o + 11, none⟩)) W := fun g o W => by simp [go_sem]
    have fa_32_7 : ∀ (g o : Nat) (W : World), (Instr.fieldAt 42 (.pointer (some ⟨g, o, none⟩)) 7).run Try.prog W = .ok (.pointer (some ⟨g, o + 17, none⟩)) W := fun g o W => by simp [go_sem]
    refine wp_region_lit ?_
    dsimp only [List.append_eq, List.cons_append, List.nil_append]
    refine frame_off 127 [(2, .pointer (some ⟨w.heap.size, 0, none⟩)), (5, .pointer (some ⟨g2, 0, none⟩)), (6, .bool b0)] (Frm.start rfl (by intro p hp; simp only [List.mem_cons, List.not_mem_nil, or_false] at hp; rcases hp with rfl | rfl | rfl <;> rfl)) (fun a hM => ?_)
    have hb : Below w3.heap.size w3 w3 := Below.refl _ _
    obtain ⟨w4, hw4⟩ : ∃ W, W = w3 := ⟨_, rfl⟩
    refine seg_cut2 (fun a' w' => Frm a' 127 [(46, .bool b0), (2, .pointer (some ⟨w.heap.size, 0, none⟩)), (5, .pointer (some ⟨g2, 0, none⟩))] ∧ Below w3.heap.size w3 w') (fun K hK => ?_) (fun a' w' hS => ?_)
    · refine seg_move hM rfl (by omega) rfl (.inl rfl) rfl (fun a hM => ?_)
      refine seg_move hM rfl (by omega) rfl (.inl rfl) rfl (fun a hM => ?_)
      exact seg_nil (hK _ _ ⟨hM.weak (by intro p hp; simp only [List.mem_cons, List.not_mem_nil, or_false] at hp; rcases hp with rfl | rfl | rfl <;> rfl), hb⟩)
    obtain ⟨hM, hb⟩ := hS
    clear hw4
    obtain ⟨c1, HC1⟩ : ∃ c, Hid ((b0 && b1) = c) := ⟨_, rfl⟩
    refine seg_cut7 (fun a' w' => Frm a' 127 [(53, .bool c1), (2, .pointer (some ⟨w.heap.size, 0, none⟩)), (5, .pointer (some ⟨g2, 0, none⟩))] ∧ Below w3.heap.size w3 w') (fun K hK => ?_) (fun a' w' hS => ?_)
    · cases b0 with
      | false =>
        obtain rfl : c1 = false := HC1.out.symm
        refine seg_skip hM rfl (by omega) rfl rfl rfl rfl (fun a hM => ?_)
        refine seg_skip hM rfl (by omega) rfl rfl rfl rfl (fun a hM => ?_)
        refine seg_skip hM rfl (by omega) rfl rfl rfl rfl (fun a hM => ?_)
        refine seg_skip hM rfl (by omega) rfl rfl rfl rfl (fun a hM => ?_)
        refine seg_skip hM rfl (by omega) rfl rfl rfl rfl (fun a hM => ?_)
        refine seg_pick hM rfl (by omega) rfl rfl rfl rfl (fun a hM => ?_)
        refine seg_move hM rfl (by omega) rfl (.inl rfl) rfl (fun a hM => ?_)
        exact seg_nil (hK _ _ ⟨hM.weak (by intro p hp; simp only [List.mem_cons, List.not_mem_nil, or_false] at hp; rcases hp with rfl | rfl | rfl <;> rfl), hb⟩)
      | true =>
        obtain rfl : c1 = b1 := HC1.out.symm
        refine seg_same hM rfl (by omega) rfl rfl rfl (v := .pointer (some ⟨w.heap.size, 3, none⟩)) (by simp [execOp, hM.ev (t := 2) (v := .pointer (some ⟨w.heap.size, 0, none⟩)) rfl, fa_32_3]) (fun a hM => ?_)
        have k0 := HQX.out _ hb 3 (.int .i64 x.d) (by rw [HC.out]; rfl)
        refine seg_same hM rfl (by omega) rfl rfl rfl (v := .int .i64 x.d) (by simp only [execOp, hM.ev (t := 47) (v := .pointer (some ⟨w.heap.size, 3, none⟩)) rfl]; simp [go_sem, k0]) (fun a hM => ?_)
        clear k0
        refine seg_same hM rfl (by omega) rfl rfl rfl (v := .pointer (some ⟨g2, 3, none⟩)) (by simp [execOp, hM.ev (t := 5) (v := .pointer (some ⟨g2, 0, none⟩)) rfl, fa_32_3]) (fun a hM => ?_)
        have k0 := HQY.out _ hb 3 (.int .i64 y.d) (by rw [HD.out]; rfl)
        refine seg_same hM rfl (by omega) rfl rfl rfl (v := .int .i64 y.d) (by simp only [execOp, hM.ev (t := 49) (v := .pointer (some ⟨g2, 3, none⟩)) rfl]; simp [go_sem, k0]) (fun a hM => ?_)
        clear k0
        have hq := HB11.out
        refine seg_same hM rfl (by omega) rfl rfl rfl (v := .bool c1) (by simp only [execOp, hM.ev (t := 48) (v := .int .i64 x.d) rfl, hM.ev (t := 50) (v := .int .i64 y.d) rfl]; simp [go_sem, hq]) (fun a hM => ?_)
        clear hq
        refine seg_pick hM rfl (by omega) rfl rfl rfl rfl (fun a hM => ?_)
        refine seg_move hM rfl (by omega) rfl (.inl rfl) rfl (fun a hM => ?_)
        exact seg_nil (hK _ _ ⟨hM.weak (by intro p hp; simp only [List.mem_cons, List.not_mem_nil, or_false] at hp; rcases hp with rfl | rfl | rfl <;> rfl), hb⟩)
    obtain ⟨hM, hb⟩ := hS
    obtain ⟨c2, HC2⟩ : ∃ c, Hid ((c1 && b2) = c) := ⟨_, rfl⟩
    refine seg_cut9 (fun a' w' => Frm a' 127 [(62, .bool c2), (2, .pointer (some ⟨w.heap.size, 0, none⟩)), (5, .pointer (some ⟨g2, 0, none⟩))] ∧ Below w3.heap.size w3 w') (fun K hK => ?_) (fun a' w' hS => ?_)
    · cases c1 with
      | false =>
        obtain rfl : c2 = false := HC2.out.symm
        refine seg_skip hM rfl (by omega) rfl rfl rfl rfl (fun a hM => ?_)
        refine seg_skip hM rfl (by omega) rfl rfl rfl rfl (fun a hM => ?_)
        refine seg_skip hM rfl (by omega) rfl rfl rfl rfl (fun a hM => ?_)
        refine seg_skip hM rfl (by omega) rfl rfl rfl rfl (fun a hM => ?_)
        refine seg_skip hM rfl (by omega) rfl rfl rfl rfl (fun a hM => ?_)
        refine seg_skip hM rfl (by omega) rfl rfl rfl rfl (fun a hM => ?_)
        refine seg_skip hM rfl (by omega) rfl rfl rfl rfl (fun a hM => ?_)
        refine seg_pick hM rfl (by omega) rfl rfl rfl rfl (fun a hM => ?_)
        refine seg_move hM rfl (by omega) rfl (.inl rfl) rfl (fun a hM => ?_)
        exact seg_nil (hK _ _ ⟨hM.weak (by intro p hp; simp only [List.mem_cons, List.not_mem_nil, or_false] at hp; rcases hp with rfl | rfl | rfl <;> rfl), hb⟩)
      | true =>
        obtain rfl : c2 = b2 := HC2.out.symm
        refine seg_same hM rfl (by omega) rfl rfl rfl (v := .pointer (some ⟨w.heap.size, 4, none⟩)) (by simp [execOp, hM.ev (t := 2) (v := .pointer (some ⟨w.heap.size, 0, none⟩)) rfl, fa_32_4]) (fun a hM => ?_)
        refine seg_same hM rfl (by omega) rfl rfl rfl (v := .pointer (some ⟨w.heap.size, 4, none⟩)) (by simp [execOp, hM.ev (t := 54) (v := .pointer (some ⟨w.heap.size, 4, none⟩)) rfl, fa_25_0]) (fun a hM => ?_)
        have k0 := HQX.out _ hb 4 (.int .i64 x.b.a) (by rw [HC.out]; rfl)
        refine seg_same hM rfl (by omega) rfl rfl rfl (v := .int .i64 x.b.a) (by simp only [execOp, hM.ev (t := 55) (v := .pointer (some ⟨w.heap.size, 4, none⟩)) rfl]; simp [go_sem, k0]) (fun a hM => ?_)
        clear k0
        refine seg_same hM rfl (by omega) rfl rfl rfl (v := .pointer (some ⟨g2, 4, none⟩)) (by simp [execOp, hM.ev (t := 5) (v := .pointer (some ⟨g2, 0, none⟩)) rfl, fa_32_4]) (fun a hM => ?_)
        refine seg_same hM rfl (by omega) rfl rfl rfl (v := .pointer (some ⟨g2, 4, none⟩)) (by simp [execOp, hM.ev (t := 57) (v := .pointer (some ⟨g2, 4, none⟩)) rfl, fa_25_0]) (fun a hM => ?_)
        have k0 := HQY.out _ hb 4 (.int .i64 y.b.a) (by rw [HD.out]; rfl)
        refine seg_same hM rfl (by omega) rfl rfl rfl (v := .int .i64 y.b.a) (by simp only [execOp, hM.ev (t := 58) (v := .pointer (some ⟨g2, 4, none⟩)) rfl]; simp [go_sem, k0]) (fun a hM => ?_)
        clear k0
        have hq := HB12.out
        refine seg_same hM rfl (by omega) rfl rfl rfl (v := .bool c2) (by simp only [execOp, hM.ev (t := 56) (v := .int .i64 x.b.a) rfl, hM.ev (t := 59) (v := .int .i64 y.b.a) rfl]; simp [go_sem, hq]) (fun a hM => ?_)
        clear hq
        refine seg_pick hM rfl (by omega) rfl rfl rfl rfl (fun a hM => ?_)
        refine seg_move hM rfl (by omega) rfl (.inl rfl) rfl (fun a hM => ?_)
        exact seg_nil (hK _ _ ⟨hM.weak (by intro p hp; simp only [List.mem_cons, List.not_mem_nil, or_false] at hp; rcases hp with rfl | rfl | rfl <;> rfl), hb⟩)
    obtain ⟨hM, hb⟩ := hS
    obtain ⟨c3, HC3⟩ : ∃ c, Hid ((c2 && b3) = c) := ⟨_, rfl⟩
    refine seg_cut9 (fun a' w' => Frm a' 127 [(71, .bool c3), (2, .pointer (some ⟨w.heap.size, 0, none⟩)), (5, .pointer (some ⟨g2, 0, none⟩))] ∧ Below w3.heap.size w3 w') (fun K hK => ?_) (fun a' w' hS => ?_)
    · cases c2 with
      | false =>
        obtain rfl : c3 = false := HC3.out.symm
        refine seg_skip hM rfl (by omega) rfl rfl rfl rfl (fun a hM => ?_)
        refine seg_skip hM rfl (by omega) rfl rfl rfl rfl (fun a hM => ?_)
        refine seg_skip hM rfl (by omega) rfl rfl rfl rfl (fun a hM => ?_)
        refine seg_skip hM rfl (by omega) rfl rfl rfl rfl (fun a hM => ?_)
        refine seg_skip hM rfl (by omega) rfl rfl rfl rfl (fun a hM => ?_)
        refine seg_skip hM rfl (by omega) rfl rfl rfl rfl (fun a hM => ?_)
        refine seg_skip hM rfl (by omega) rfl rfl rfl rfl (fun a hM => ?_)
        refine seg_pick hM rfl (by omega) rfl rfl rfl rfl (fun a hM => ?_)
        refine seg_move hM rfl (by omega) rfl (.inl rfl) rfl (fun a hM => ?_)
        exact seg_nil (hK _ _ ⟨hM.weak (by intro p hp; simp only [List.mem_cons, List.not_mem_nil, or_false] at hp; rcases hp with rfl | rfl | rfl <;> rfl), hb⟩)
      | true =>
        obtain rfl : c3 = b3 := HC3.out.symm
        refine seg_same hM rfl (by omega) rfl rfl rfl (v := .pointer (some ⟨w.heap.size, 4, none⟩)) (by simp [execOp, hM.ev (t := 2) (v := .pointer (some ⟨w.heap.size, 0, none⟩)) rfl, fa_32_4]) (fun a hM => ?_)
        refine seg_same hM rfl (by omega) rfl rfl rfl (v := .pointer (some ⟨w.heap.size, 5, none⟩)) (by simp [execOp, hM.ev (t := 63) (v := .pointer (some ⟨w.heap.size, 4, none⟩)) rfl, fa_25_1]) (fun a hM => ?_)
        have k0 := HQX.out _ hb 5 (.int .i64 x.b.n) (by rw [HC.out]; rfl)
        refine seg_same hM rfl (by omega) rfl rfl rfl (v := .int .i64 x.b.n) (by simp only [execOp, hM.ev (t := 64) (v := .pointer (some ⟨w.heap.size, 5, none⟩)) rfl]; simp [go_sem, k0]) (fun a hM => ?_)
        clear k0
        refine seg_same hM rfl (by omega) rfl rfl rfl (v := .pointer (some ⟨g2, 4, none⟩)) (by simp [execOp, hM.ev (t := 5) (v := .pointer (some ⟨g2, 0, none⟩)) rfl, fa_32_4]) (fun a hM => ?_)
        refine seg_same hM rfl (by omega) rfl rfl rfl (v := .pointer (some ⟨g2, 5, none⟩)) (by simp [execOp, hM.ev (t := 66) (v := .pointer (some ⟨g2, 4, none⟩)) rfl, fa_25_1]) (fun a hM => ?_)
        have k0 := HQY.out _ hb 5 (.int .i64 y.b.n) (by rw [HD.out]; rfl)
        refine seg_same hM rfl (by omega) rfl rfl rfl (v := .int .i64 y.b.n) (by simp only [execOp, hM.ev (t := 67) (v := .pointer (some ⟨g2, 5, none⟩)) rfl]; simp [go_sem, k0]) (fun a hM => ?_)
        clear k0
        have hq := HB13.out
        refine seg_same hM rfl (by omega) rfl rfl rfl (v := .bool c3) (by simp only [execOp, hM.ev (t := 65) (v := .int .i64 x.b.n) rfl, hM.ev (t := 68) (v := .int .i64 y.b.n) rfl]; simp [go_sem, hq]) (fun a hM => ?_)
        clear hq
        refine seg_pick hM rfl (by omega) rfl rfl rfl rfl (fun a hM => ?_)
        refine seg_move hM rfl (by omega) rfl (.inl rfl) rfl (fun a hM => ?_)
        exact seg_nil (hK _ _ ⟨hM.weak (by intro p hp; simp only [List.mem_cons, List.not_mem_nil, or_false] at hp; rcases hp with rfl | rfl | rfl <;> rfl), hb⟩)
    obtain ⟨hM, hb⟩ := hS
    obtain ⟨c4, HC4⟩ : ∃ c, Hid ((c3 && b4) = c) := ⟨_, rfl⟩
    refine seg_cut11 (fun a' w' => Frm a' 127 [(82, .bool c4), (2, .pointer (some ⟨w.heap.size, 0, none⟩)), (5, .pointer (some ⟨g2, 0, none⟩))] ∧ Below w3.heap.size w3 w') (fun K hK => ?_) (fun a' w' hS => ?_)
    · cases c3 with
      | false =>
        obtain rfl : c4 = false := HC4.out.symm
        refine seg_skip hM rfl (by omega) rfl rfl rfl rfl (fun a hM => ?_)
        refine seg_skip hM rfl (by omega) rfl rfl rfl rfl (fun a hM => ?_)
        refine seg_skip hM rfl (by omega) rfl rfl rfl rfl (fun a hM => ?_)
        refine seg_skip hM rfl (by omega) rfl rfl rfl rfl (fun a hM => ?_)
        refine seg_skip hM rfl (by omega) rfl rfl rfl rfl (fun a hM => ?_)
        refine seg_skip hM rfl (by omega) rfl rfl rfl rfl (fun a hM => ?_)
        refine seg_skip hM rfl (by omega) rfl rfl rfl rfl (fun a hM => ?_)
        refine seg_skip hM rfl (by omega) rfl rfl rfl rfl (fun a hM => ?_)
        refine seg_skip hM rfl (by omega) rfl rfl rfl rfl (fun a hM => ?_)
        refine seg_pick hM rfl (by omega) rfl rfl rfl rfl (fun a hM => ?_)
        refine seg_move hM rfl (by omega) rfl (.inl rfl) rfl (fun a hM => ?_)
        exact seg_nil (hK _ _ ⟨hM.weak (by intro p hp; simp only [List.mem_cons, List.not_mem_nil, or_false] at hp; rcases hp with rfl | rfl | rfl <;> rfl), hb⟩)
      | true =>
        obtain rfl : c4 = b4 := HC4.out.symm
        refine seg_same hM rfl (by omega) rfl rfl rfl (v := .pointer (some ⟨w.heap.size, 4, none⟩)) (by simp [execOp, hM.ev (t := 2) (v := .pointer (some ⟨w.heap.size, 0, none⟩)) rfl, fa_32_4]) (fun a hM => ?_)
        refine seg_same hM rfl (by omega) rfl rfl rfl (v := .pointer (some ⟨w.heap.size, 6, none⟩)) (by simp [execOp, hM.ev (t := 72) (v := .pointer (some ⟨w.heap.size, 4, none⟩)) rfl, fa_25_2]) (fun a hM => ?_)
        have k0 := HQX.out _ hb 6 (.slice v.tx.A v.tx.n v.tx.c) (by rw [HC.out]; rfl)
        refine seg_same hM rfl (by omega) rfl rfl rfl (v := .slice v.tx.A v.tx.n v.tx.c) (by simp only [execOp, hM.ev (t := 73) (v := .pointer (some ⟨w.heap.size, 6, none⟩)) rfl]; simp [go_sem, k0]) (fun a hM => ?_)
        clear k0
        refine seg_same hM rfl (by omega) rfl rfl rfl (v := .int .i64 (v.tx.n : Int)) (by simp only [execOp, resolve, List.map_toArray, List.map_cons, List.map_nil, hM.ev (t := 74) (v := .slice v.tx.A v.tx.n v.tx.c) rfl]; simp [go_sem]) (fun a hM => ?_)
        refine seg_same hM rfl (by omega) rfl rfl rfl (v := .pointer (some ⟨g2, 4, none⟩)) (by simp [execOp, hM.ev (t := 5) (v := .pointer (some ⟨g2, 0, none⟩)) rfl, fa_32_4]) (fun a hM => ?_)
        refine seg_same hM rfl (by omega) rfl rfl rfl (v := .pointer (some ⟨g2, 6, none⟩)) (by simp [execOp, hM.ev (t := 76) (v := .pointer (some ⟨g2, 4, none⟩)) rfl, fa_25_2]) (fun a hM => ?_)
        have k0 := HQY.out _ hb 6 (.slice u.tx.A u.tx.n u.tx.c) (by rw [HD.out]; rfl)
        refine seg_same hM rfl (by omega) rfl rfl rfl (v := .slice u.tx.A u.tx.n u.tx.c) (by simp only [execOp, hM.ev (t := 77) (v := .pointer (some ⟨g2, 6, none⟩)) rfl]; simp [go_sem, k0]) (fun a hM => ?_)
        clear k0
        refine seg_same hM rfl (by omega) rfl rfl rfl (v := .int .i64 (u.tx.n : Int)) (by simp only [execOp, resolve, List.map_toArray, List.map_cons, List.map_nil, hM.ev (t := 78) (v := .slice u.tx.A u.tx.n u.tx.c) rfl]; simp [go_sem]) (fun a hM => ?_)
        have hq : ((v.tx.n : Int) == (u.tx.n : Int)) = c4 := by rw [← HB14.out, Bool.eq_iff_iff]; simp only [beq_iff_eq]; omega
        refine seg_same hM rfl (by omega) rfl rfl rfl (v := .bool c4) (by simp only [execOp, hM.ev (t := 75) (v := .int .i64 (v.tx.n : Int)) rfl, hM.ev (t := 79) (v := .int .i64 (u.tx.n : Int)) rfl]; simp [go_sem, hq]) (fun a hM => ?_)
        clear hq
        refine seg_pick hM rfl (by omega) rfl rfl rfl rfl (fun a hM => ?_)
        refine seg_move hM rfl (by omega) rfl (.inl rfl) rfl (fun a hM => ?_)
        exact seg_nil (hK _ _ ⟨hM.weak (by intro p hp; simp only [List.mem_cons, List.not_mem_nil, or_false] at hp; rcases hp with rfl | rfl | rfl <;> rfl), hb⟩)
    obtain ⟨hM, hb⟩ := hS
    obtain ⟨c5, HC5⟩ : ∃ c, Hid ((c4 && b5) = c) := ⟨_, rfl⟩
    refine seg_cut7 (fun a' w' => Frm a' 127 [(89, .bool c5), (2, .pointer (some ⟨w.heap.size, 0, none⟩)), (5, .pointer (some ⟨g2, 0, none⟩))] ∧ Below w3.heap.size w3 w') (fun K hK => ?_) (fun a' w' hS => ?_)
    · cases c4 with
      | false =>
        obtain rfl : c5 = false := HC5.out.symm
        refine seg_skip hM rfl (by omega) rfl rfl rfl rfl (fun a hM => ?_)
        refine seg_skip hM rfl (by omega) rfl rfl rfl rfl (fun a hM => ?_)
        refine seg_skip hM rfl (by omega) rfl rfl rfl rfl (fun a hM => ?_)
        refine seg_skip hM rfl (by omega) rfl rfl rfl rfl (fun a hM => ?_)
        refine seg_skip hM rfl (by omega) rfl rfl rfl rfl (fun a hM => ?_)
        refine seg_pick hM rfl (by omega) rfl rfl rfl rfl (fun a hM => ?_)
        refine seg_move hM rfl (by omega) rfl (.inl rfl) rfl (fun a hM => ?_)
        exact seg_nil (hK _ _ ⟨hM.weak (by intro p hp; simp only [List.mem_cons, List.not_mem_nil, or_false] at hp; rcases hp with rfl | rfl | rfl <;> rfl), hb⟩)
      | true =>
        obtain rfl : c5 = b5 := HC5.out.symm
        refine seg_same hM rfl (by omega) rfl rfl rfl (v := .pointer (some ⟨w.heap.size, 7, none⟩)) (by simp [execOp, hM.ev (t := 2) (v := .pointer (some ⟨w.heap.size, 0, none⟩)) rfl, fa_32_5]) (fun a hM => ?_)
        have k0 := HQX.out _ hb 7 (.int .i64 x.h.a) (by rw [HC.out]; rfl)
        have k1 := HQX.out _ hb 8 (.int .i64 x.h.r) (by rw [HC.out]; rfl)
        have k2 := HQX.out _ hb 9 (.slice v.hb.A v.hb.n v.hb.c) (by rw [HC.out]; rfl)
        have k3 := HQX.out _ hb 10 (.slice v.hp.A v.hp.n v.hp.c) (by rw [HC.out]; rfl)
        refine seg_same hM rfl (by omega) rfl rfl rfl (v := .agg #[.int .i64 x.h.a, .int .i64 x.h.r, .slice v.hb.A v.hb.n v.hb.c, .slice v.hp.A v.hp.n v.hp.c]) (by simp only [execOp, hM.ev (t := 83) (v := .pointer (some ⟨w.heap.size, 7, none⟩)) rfl]; simp [go_sem, k0, k1, k2, k3]) (fun a hM => ?_)
        clear k0 k1 k2 k3
        refine seg_same hM rfl (by omega) rfl rfl rfl (v := .pointer (some ⟨g2, 7, none⟩)) (by simp [execOp, hM.ev (t := 5) (v := .pointer (some ⟨g2, 0, none⟩)) rfl, fa_32_5]) (fun a hM => ?_)
        have k0 := HQY.out _ hb 7 (.int .i64 y.h.a) (by rw [HD.out]; rfl)
        have k1 := HQY.out _ hb 8 (.int .i64 y.h.r) (by rw [HD.out]; rfl)
        have k2 := HQY.out _ hb 9 (.slice u.hb.A u.hb.n u.hb.c) (by rw [HD.out]; rfl)
        have k3 := HQY.out _ hb 10 (.slice u.hp.A u.hp.n u.hp.c) (by rw [HD.out]; rfl)
        refine seg_same hM rfl (by omega) rfl rfl rfl (v := .agg #[.int .i64 y.h.a, .int .i64 y.h.r, .slice u.hb.A u.hb.n u.hb.c, .slice u.hp.A u.hp.n u.hp.c]) (by simp only [execOp, hM.ev (t := 85) (v := .pointer (some ⟨g2, 7, none⟩)) rfl]; simp [go_sem, k0, k1, k2, k3]) (fun a hM => ?_)
        clear k0 k1 k2 k3
        have hcall := fun W => eq_by HB15.out (message_head (A1 := v.hb.A) (n1 := v.hb.n) (c1 := v.hb.c) (A2 := v.hp.A) (n2 := v.hp.n) (c2 := v.hp.c) (B1 := u.hb.A) (m1 := u.hb.n) (d1 := u.hb.c) (B2 := u.hp.A) (m2 := u.hp.n) (d2 := u.hp.c) x.h.a x.h.r y.h.a y.h.r W)
        refine seg_callg hM rfl (by omega) rfl rfl rfl (f := 67) (args := #[.agg #[.int .i64 x.h.a, .int .i64 x.h.r, .slice v.hb.A v.hb.n v.hb.c, .slice v.hp.A v.hp.n v.hp.c], .agg #[.int .i64 y.h.a, .int .i64 y.h.r, .slice u.hb.A u.hb.n u.hb.c, .slice u.hp.A u.hp.n u.hp.c]]) (by simp only [execOp, resolve, List.map_toArray, List.map_cons, List.map_nil, hM.ev (t := 84) (v := .agg #[.int .i64 x.h.a, .int .i64 x.h.r, .slice v.hb.A v.hb.n v.hb.c, .slice v.hp.A v.hp.n v.hp.c]) rfl, hM.ev (t := 86) (v := .agg #[.int .i64 y.h.a, .int .i64 y.h.r, .slice u.hb.A u.hb.n u.hb.c, .slice u.hp.A u.hp.n u.hp.c]) rfl]; simp [go_sem, Act.eval]) (hcall _) (fun a w9 hM hb9 => ?_)
        have hb := below_then hb hb9
        clear hb9 hcall
        refine seg_pick hM rfl (by omega) rfl rfl rfl rfl (fun a hM => ?_)
        refine seg_move hM rfl (by omega) rfl (.inl rfl) rfl (fun a hM => ?_)
        exact seg_nil (hK _ _ ⟨hM.weak (by intro p hp; simp only [List.mem_cons, List.not_mem_nil, or_false] at hp; rcases hp with rfl | rfl | rfl <;> rfl), hb⟩)
    obtain ⟨hM, hb⟩ := hS
    obtain ⟨c6, HC6⟩ : ∃ c, Hid ((c5 && b6) = c) := ⟨_, rfl⟩
    refine seg_cut9 (fun a' w' => Frm a' 127 [(98, .bool c6), (2, .pointer (some ⟨w.heap.size, 0, none⟩)), (5, .pointer (some ⟨g2, 0, none⟩))] ∧ Below w3.heap.size w3 w') (fun K hK => ?_) (fun a' w' hS => ?_)
    · cases c5 with
      | false =>
        obtain rfl : c6 = false := HC6.out.symm
        refine seg_skip hM rfl (by omega) rfl rfl rfl rfl (fun a hM => ?_)
        refine seg_skip hM rfl (by omega) rfl rfl rfl rfl (fun a hM => ?_)
        refine seg_skip hM rfl (by omega) rfl rfl rfl rfl (fun a hM => ?_)
        refine seg_skip hM rfl (by omega) rfl rfl rfl rfl (fun a hM => ?_)
        refine seg_skip hM rfl (by omega) rfl rfl rfl rfl (fun a hM => ?_)
        refine seg_skip hM rfl (by omega) rfl rfl rfl rfl (fun a hM => ?_)
        refine seg_skip hM rfl (by omega) rfl rfl rfl rfl (fun a hM => ?_)
        refine seg_pick hM rfl (by omega) rfl rfl rfl rfl (fun a hM => ?_)
        refine seg_move hM rfl (by omega) rfl (.inl rfl) rfl (fun a hM => ?_)
        exact seg_nil (hK _ _ ⟨hM.weak (by intro p hp; simp only [List.mem_cons, List.not_mem_nil, or_false] at hp; rcases hp with rfl | rfl | rfl <;> rfl), hb⟩)
      | true =>
        obtain rfl : c6 = b6 := HC6.out.symm
        refine seg_same hM rfl (by omega) rfl rfl rfl (v := .pointer (some ⟨w.heap.size, 11, none⟩)) (by simp [execOp, hM.ev (t := 2) (v := .pointer (some ⟨w.heap.size, 0, none⟩)) rfl, fa_32_6]) (fun a hM => ?_)
        refine seg_same hM rfl (by omega) rfl rfl rfl (v := .pointer (some ⟨w.heap.size, 11, none⟩)) (by simp [execOp, hM.ev (t := 90) (v := .pointer (some ⟨w.heap.size, 11, none⟩)) rfl, fa_30_0]) (fun a hM => ?_)
        have k0 := HQX.out _ hb 11 (.int .i64 x.c.h.a) (by rw [HC.out]; rfl)
        have k1 := HQX.out _ hb 12 (.int .i64 x.c.h.r) (by rw [HC.out]; rfl)
        have k2 := HQX.out _ hb 13 (.slice v.cb.A v.cb.n v.cb.c) (by rw [HC.out]; rfl)
        have k3 := HQX.out _ hb 14 (.slice v.cp.A v.cp.n v.cp.c) (by rw [HC.out]; rfl)
        refine seg_same hM rfl (by omega) rfl rfl rfl (v := .agg #[.int .i64 x.c.h.a, .int .i64 x.c.h.r, .slice v.cb.A v.cb.n v.cb.c, .slice v.cp.A v.cp.n v.cp.c]) (by simp only [execOp, hM.ev (t := 91) (v := .pointer (some ⟨w.heap.size, 11, none⟩)) rfl]; simp [go_sem, k0, k1, k2, k3]) (fun a hM => ?_)
        clear k0 k1 k2 k3
        refine seg_same hM rfl (by omega) rfl rfl rfl (v := .pointer (some ⟨g2, 11, none⟩)) (by simp [execOp, hM.ev (t := 5) (v := .pointer (some ⟨g2, 0, none⟩)) rfl, fa_32_6]) (fun a hM => ?_)
        refine seg_same hM rfl (by omega) rfl rfl rfl (v := .pointer (some ⟨g2, 11, none⟩)) (by simp [execOp, hM.ev (t := 93) (v := .pointer (some ⟨g2, 11, none⟩)) rfl, fa_30_0]) (fun a hM => ?_)
        have k0 := HQY.out _ hb 11 (.int .i64 y.c.h.a) (by rw [HD.out]; rfl)
        have k1 := HQY.out _ hb 12 (.int .i64 y.c.h.r) (by rw [HD.out]; rfl)
        have k2 := HQY.out _ hb 13 (.slice u.cb.A u.cb.n u.cb.c) (by rw [HD.out]; rfl)
        have k3 := HQY.out _ hb 14 (.slice u.cp.A u.cp.n u.cp.c) (by rw [HD.out]; rfl)
        refine seg_same hM rfl (by omega) rfl rfl rfl (v := .agg #[.int .i64 y.c.h.a, .int .i64 y.c.h.r, .slice u.cb.A u.cb.n u.cb.c, .slice u.cp.A u.cp.n u.cp.c]) (by simp only [execOp, hM.ev (t := 94) (v := .pointer (some ⟨g2, 11, none⟩)) rfl]; simp [go_sem, k0, k1, k2, k3]) (fun a hM => ?_)
        clear k0 k1 k2 k3
        have hcall := fun W => eq_by HB16.out (message_head (A1 := v.cb.A) (n1 := v.cb.n) (c1 := v.cb.c) (A2 := v.cp.A) (n2 := v.cp.n) (c2 := v.cp.c) (B1 := u.cb.A) (m1 := u.cb.n) (d1 := u.cb.c) (B2 := u.cp.A) (m2 := u.cp.n) (d2 := u.cp.c) x.c.h.a x.c.h.r y.c.h.a y.c.h.r W)
        refine seg_callg hM rfl (by omega) rfl rfl rfl (f := 67) (args := #[.agg #[.int .i64 x.c.h.a, .int .i64 x.c.h.r, .slice v.cb.A v.cb.n v.cb.c, .slice v.cp.A v.cp.n v.cp.c], .agg #[.int .i64 y.c.h.a, .int .i64 y.c.h.r, .slice u.cb.A u.cb.n u.cb.c, .slice u.cp.A u.cp.n u.cp.c]]) (by simp only [execOp, resolve, List.map_toArray, List.map_cons, List.map_nil, hM.ev (t := 92) (v := .agg #[.int .i64 x.c.h.a, .int .i64 x.c.h.r, .slice v.cb.A v.cb.n v.cb.c, .slice v.cp.A v.cp.n v.cp.c]) rfl, hM.ev (t := 95) (v := .agg #[.int .i64 y.c.h.a, .int .i64 y.c.h.r, .slice u.cb.A u.cb.n u.cb.c, .slice u.cp.A u.cp.n u.cp.c]) rfl]; simp [go_sem, Act.eval]) (hcall _) (fun a w9 hM hb9 => ?_)
        have hb := below_then hb hb9
        clear hb9 hcall
        refine seg_pick hM rfl (by omega) rfl rfl rfl rfl (fun a hM => ?_)
        refine seg_move hM rfl (by omega) rfl (.inl rfl) rfl (fun a hM => ?_)
        exact seg_nil (hK _ _ ⟨hM.weak (by intro p hp; simp only [List.mem_cons, List.not_mem_nil, or_false] at hp; rcases hp with rfl | rfl | rfl <;> rfl), hb⟩)
    obtain ⟨hM, hb⟩ := hS
    obtain ⟨c7, HC7⟩ : ∃ c, Hid ((c6 && b7) = c) := ⟨_, rfl⟩
    refine seg_cut9 (fun a' w' => Frm a' 127 [(107, .bool c7), (2, .pointer (some ⟨w.heap.size, 0, none⟩)), (5, .pointer (some ⟨g2, 0, none⟩))] ∧ Below w3.heap.size w3 w') (fun K hK => ?_) (fun a' w' hS => ?_)
    · cases c6 with
      | false =>
        obtain rfl : c7 = false := HC7.out.symm
        refine seg_skip hM rfl (by omega) rfl rfl rfl rfl (fun a hM => ?_)
        refine seg_skip hM rfl (by omega) rfl rfl rfl rfl (fun a hM => ?_)
        refine seg_skip hM rfl (by omega) rfl rfl rfl rfl (fun a hM => ?_)
        refine seg_skip hM rfl (by omega) rfl rfl rfl rfl (fun a hM => ?_)
        refine seg_skip hM rfl (by omega) rfl rfl rfl rfl (fun a hM => ?_)
        refine seg_skip hM rfl (by omega) rfl rfl rfl rfl (fun a hM => ?_)
        refine seg_skip hM rfl (by omega) rfl rfl rfl rfl (fun a hM => ?_)
        refine seg_pick hM rfl (by omega) rfl rfl rfl rfl (fun a hM => ?_)
        refine seg_move hM rfl (by omega) rfl (.inl rfl) rfl (fun a hM => ?_)
        exact seg_nil (hK _ _ ⟨hM.weak (by intro p hp; simp only [List.mem_cons, List.not_mem_nil, or_false] at hp; rcases hp with rfl | rfl | rfl <;> rfl), hb⟩)
      | true =>
        obtain rfl : c7 = b7 := HC7.out.symm
        refine seg_same hM rfl (by omega) rfl rfl rfl (v := .pointer (some ⟨w.heap.size, 11, none⟩)) (by simp [execOp, hM.ev (t := 2) (v := .pointer (some ⟨w.heap.size, 0, none⟩)) rfl, fa_32_6]) (fun a hM => ?_)
        refine seg_same hM rfl (by omega) rfl rfl rfl (v := .pointer (some ⟨w.heap.size, 15, none⟩)) (by simp [execOp, hM.ev (t := 99) (v := .pointer (some ⟨w.heap.size, 11, none⟩)) rfl, fa_30_1]) (fun a hM => ?_)
        have k0 := HQX.out _ hb 15 (.int .i64 x.c.d) (by rw [HC.out]; rfl)
        refine seg_same hM rfl (by omega) rfl rfl rfl (v := .int .i64 x.c.d) (by simp only [execOp, hM.ev (t := 100) (v := .pointer (some ⟨w.heap.size, 15, none⟩)) rfl]; simp [go_sem, k0]) (fun a hM => ?_)
        clear k0
        refine seg_same hM rfl (by omega) rfl rfl rfl (v := .pointer (some ⟨g2, 11, none⟩)) (by simp [execOp, hM.ev (t := 5) (v := .pointer (some ⟨g2, 0, none⟩)) rfl, fa_32_6]) (fun a hM => ?_)
        refine seg_same hM rfl (by omega) rfl rfl rfl (v := .pointer (some ⟨g2, 15, none⟩)) (by simp [execOp, hM.ev (t := 102) (v := .pointer (some ⟨g2, 11, none⟩)) rfl, fa_30_1]) (fun a hM => ?_)
        have k0 := HQY.out _ hb 15 (.int .i64 y.c.d) (by rw [HD.out]; rfl)
        refine seg_same hM rfl (by omega) rfl rfl rfl (v := .int .i64 y.c.d) (by simp only [execOp, hM.ev (t := 103) (v := .pointer (some ⟨g2, 15, none⟩)) rfl]; simp [go_sem, k0]) (fun a hM => ?_)
        clear k0
        have hq := HB17.out
        refine seg_same hM rfl (by omega) rfl rfl rfl (v := .bool c7) (by simp only [execOp, hM.ev (t := 101) (v := .int .i64 x.c.d) rfl, hM.ev (t := 104) (v := .int .i64 y.c.d) rfl]; simp [go_sem, hq]) (fun a hM => ?_)
        clear hq
        refine seg_pick hM rfl (by omega) rfl rfl rfl rfl (fun a hM => ?_)
        refine seg_move hM rfl (by omega) rfl (.inl rfl) rfl (fun a hM => ?_)
        exact seg_nil (hK _ _ ⟨hM.weak (by intro p hp; simp only [List.mem_cons, List.not_mem_nil, or_false] at hp; rcases hp with rfl | rfl | rfl <;> rfl), hb⟩)
    obtain ⟨hM, hb⟩ := hS
    obtain ⟨c8, HC8⟩ : ∃ c, Hid ((c7 && b8) = c) := ⟨_, rfl⟩
    refine seg_cut11 (fun a' w' => Frm a' 127 [(118, .bool c8), (2, .pointer (some ⟨w.heap.size, 0, none⟩)), (5, .pointer (some ⟨g2, 0, none⟩))] ∧ Below w3.heap.size w3 w') (fun K hK => ?_) (fun a' w' hS => ?_)
    · cases c7 with
      | false =>
        obtain rfl : c8 = false := HC8.out.symm
        refine seg_skip hM rfl (by omega) rfl rfl rfl rfl (fun a hM => ?_)
        refine seg_skip hM rfl (by omega) rfl rfl rfl rfl (fun a hM => ?_)
        refine seg_skip hM rfl (by omega) rfl rfl rfl rfl (fun a hM => ?_)
        refine seg_skip hM rfl (by omega) rfl rfl rfl rfl (fun a hM => ?_)
        refine seg_skip hM rfl (by omega) rfl rfl rfl rfl (fun a hM => ?_)
        refine seg_skip hM rfl (by omega) rfl rfl rfl rfl (fun a hM => ?_)
        refine seg_skip hM rfl (by omega) rfl rfl rfl rfl (fun a hM => ?_)
        refine seg_skip hM rfl (by omega) rfl rfl rfl rfl (fun a hM => ?_)
        refine seg_skip hM rfl (by omega) rfl rfl rfl rfl (fun a hM => ?_)
        refine seg_pick hM rfl (by omega) rfl rfl rfl rfl (fun a hM => ?_)
        refine seg_move hM rfl (by omega) rfl (.inl rfl) rfl (fun a hM => ?_)
        exact seg_nil (hK _ _ ⟨hM.weak (by intro p hp; simp only [List.mem_cons, List.not_mem_nil, or_false] at hp; rcases hp with rfl | rfl | rfl <;> rfl), hb⟩)
      | true =>
        obtain rfl : c8 = b8 := HC8.out.symm
        refine seg_same hM rfl (by omega) rfl rfl rfl (v := .pointer (some ⟨w.heap.size, 11, none⟩)) (by simp [execOp, hM.ev (t := 2) (v := .pointer (some ⟨w.heap.size, 0, none⟩)) rfl, fa_32_6]) (fun a hM => ?_)
        refine seg_same hM rfl (by omega) rfl rfl rfl (v := .pointer (some ⟨w.heap.size, 16, none⟩)) (by simp [execOp, hM.ev (t := 108) (v := .pointer (some ⟨w.heap.size, 11, none⟩)) rfl, fa_30_2]) (fun a hM => ?_)
        have k0 := HQX.out _ hb 16 (.slice v.cs.A v.cs.n v.cs.c) (by rw [HC.out]; rfl)
        refine seg_same hM rfl (by omega) rfl rfl rfl (v := .slice v.cs.A v.cs.n v.cs.c) (by simp only [execOp, hM.ev (t := 109) (v := .pointer (some ⟨w.heap.size, 16, none⟩)) rfl]; simp [go_sem, k0]) (fun a hM => ?_)
        clear k0
        refine seg_same hM rfl (by omega) rfl rfl rfl (v := .int .i64 (v.cs.n : Int)) (by simp only [execOp, resolve, List.map_toArray, List.map_cons, List.map_nil, hM.ev (t := 110) (v := .slice v.cs.A v.cs.n v.cs.c) rfl]; simp [go_sem]) (fun a hM => ?_)
        refine seg_same hM rfl (by omega) rfl rfl rfl (v := .pointer (some ⟨g2, 11, none⟩)) (by simp [execOp, hM.ev (t := 5) (v := .pointer (some ⟨g2, 0, none⟩)) rfl, fa_32_6]) (fun a hM => ?_)
        refine seg_same hM rfl (by omega) rfl rfl rfl (v := .pointer (some ⟨g2, 16, none⟩)) (by simp [execOp, hM.ev (t := 112) (v := .pointer (some ⟨g2, 11, none⟩)) rfl, fa_30_2]) (fun a hM => ?_)
        have k0 := HQY.out _ hb 16 (.slice u.cs.A u.cs.n u.cs.c) (by rw [HD.out]; rfl)
        refine seg_same hM rfl (by omega) rfl rfl rfl (v := .slice u.cs.A u.cs.n u.cs.c) (by simp only [execOp, hM.ev (t := 113) (v := .pointer (some ⟨g2, 16, none⟩)) rfl]; simp [go_sem, k0]) (fun a hM => ?_)
        clear k0
        refine seg_same hM rfl (by omega) rfl rfl rfl (v := .int .i64 (u.cs.n : Int)) (by simp only [execOp, resolve, List.map_toArray, List.map_cons, List.map_nil, hM.ev (t := 114) (v := .slice u.cs.A u.cs.n u.cs.c) rfl]; simp [go_sem]) (fun a hM => ?_)
        have hq : ((v.cs.n : Int) == (u.cs.n : Int)) = c8 := by rw [← HB18.out, Bool.eq_iff_iff]; simp only [beq_iff_eq]; omega
        refine seg_same hM rfl (by omega) rfl rfl rfl (v := .bool c8) (by simp only [execOp, hM.ev (t := 111) (v := .int .i64 (v.cs.n : Int)) rfl, hM.ev (t := 115) (v := .int .i64 (u.cs.n : Int)) rfl]; simp [go_sem, hq]) (fun a hM => ?_)
        clear hq
        refine seg_pick hM rfl (by omega) rfl rfl rfl rfl (fun a hM => ?_)
        refine seg_move hM rfl (by omega) rfl (.inl rfl) rfl (fun a hM => ?_)
        exact seg_nil (hK _ _ ⟨hM.weak (by intro p hp; simp only [List.mem_cons, List.not_mem_nil, or_false] at hp; rcases hp with rfl | rfl | rfl <;> rfl), hb⟩)
    obtain ⟨hM, hb⟩ := hS
    obtain ⟨c9, HC9⟩ : ∃ c, Hid ((c8 && b9) = c) := ⟨_, rfl⟩
    refine seg_cut9 (fun a' w' => Frm a' 127 [(4, .bool c9), (2, .pointer (some ⟨w.heap.size, 0, none⟩)), (5, .pointer (some ⟨g2, 0, none⟩))] ∧ Below w3.heap.size w3 w') (fun K hK => ?_) (fun a' w' hS => ?_)
    · cases c8 with
      | false =>
        obtain rfl : c9 = false := HC9.out.symm
        refine seg_skip hM rfl (by omega) rfl rfl rfl rfl (fun a hM => ?_)
        refine seg_skip hM rfl (by omega) rfl rfl rfl rfl (fun a hM => ?_)
        refine seg_skip hM rfl (by omega) rfl rfl rfl rfl (fun a hM => ?_)
        refine seg_skip hM rfl (by omega) rfl rfl rfl rfl (fun a hM => ?_)
        refine seg_skip hM rfl (by omega) rfl rfl rfl rfl (fun a hM => ?_)
        refine seg_skip hM rfl (by omega) rfl rfl rfl rfl (fun a hM => ?_)
        refine seg_skip hM rfl (by omega) rfl rfl rfl rfl (fun a hM => ?_)
        refine seg_pick hM rfl (by omega) rfl rfl rfl rfl (fun a hM => ?_)
        refine seg_move hM rfl (by omega) rfl (.inr rfl) rfl (fun a hM => ?_)
        exact seg_nil (hK _ _ ⟨hM.weak (by intro p hp; simp only [List.mem_cons, List.not_mem_nil, or_false] at hp; rcases hp with rfl | rfl | rfl <;> rfl), hb⟩)
      | true =>
        obtain rfl : c9 = b9 := HC9.out.symm
        refine seg_same hM rfl (by omega) rfl rfl rfl (v := .pointer (some ⟨w.heap.size, 17, none⟩)) (by simp [execOp, hM.ev (t := 2) (v := .pointer (some ⟨w.heap.size, 0, none⟩)) rfl, fa_32_7]) (fun a hM => ?_)
        have k0 := HQX.out _ hb 17 (.slice v.ds.A v.ds.n v.ds.c) (by rw [HC.out]; rfl)
        refine seg_same hM rfl (by omega) rfl rfl rfl (v := .slice v.ds.A v.ds.n v.ds.c) (by simp only [execOp, hM.ev (t := 119) (v := .pointer (some ⟨w.heap.size, 17, none⟩)) rfl]; simp [go_sem, k0]) (fun a hM => ?_)
        clear k0
        refine seg_same hM rfl (by omega) rfl rfl rfl (v := .int .i64 (v.ds.n : Int)) (by simp only [execOp, resolve, List.map_toArray, List.map_cons, List.map_nil, hM.ev (t := 120) (v := .slice v.ds.A v.ds.n v.ds.c) rfl]; simp [go_sem]) (fun a hM => ?_)
        refine seg_same hM rfl (by omega) rfl rfl rfl (v := .pointer (some ⟨g2, 17, none⟩)) (by simp [execOp, hM.ev (t := 5) (v := .pointer (some ⟨g2, 0, none⟩)) rfl, fa_32_7]) (fun a hM => ?_)
        have k0 := HQY.out _ hb 17 (.slice u.ds.A u.ds.n u.ds.c) (by rw [HD.out]; rfl)
        refine seg_same hM rfl (by omega) rfl rfl rfl (v := .slice u.ds.A u.ds.n u.ds.c) (by simp only [execOp, hM.ev (t := 122) (v := .pointer (some ⟨g2, 17, none⟩)) rfl]; simp [go_sem, k0]) (fun a hM => ?_)
        clear k0
        refine seg_same hM rfl (by omega) rfl rfl rfl (v := .int .i64 (u.ds.n : Int)) (by simp only [execOp, resolve, List.map_toArray, List.map_cons, List.map_nil, hM.ev (t := 123) (v := .slice u.ds.A u.ds.n u.ds.c) rfl]; simp [go_sem]) (fun a hM => ?_)
        have hq : ((v.ds.n : Int) == (u.ds.n : Int)) = c9 := by rw [← HB19.out, Bool.eq_iff_iff]; simp only [beq_iff_eq]; omega
        refine seg_same hM rfl (by omega) rfl rfl rfl (v := .bool c9) (by simp only [execOp, hM.ev (t := 121) (v := .int .i64 (v.ds.n : Int)) rfl, hM.ev (t := 124) (v := .int .i64 (u.ds.n : Int)) rfl]; simp [go_sem, hq]) (fun a hM => ?_)
        clear hq
        refine seg_pick hM rfl (by omega) rfl rfl rfl rfl (fun a hM => ?_)
        refine seg_move hM rfl (by omega) rfl (.inr rfl) rfl (fun a hM => ?_)
        exact seg_nil (hK _ _ ⟨hM.weak (by intro p hp; simp only [List.mem_cons, List.not_mem_nil, or_false] at hp; rcases hp with rfl | rfl | rfl <;> rfl), hb⟩)
    obtain ⟨hM, hb⟩ := hS
    refine wpList_nil ?_
    simp only [Exit.then]
    go_step
    apply wp_ret
    refine bodyPost_ret (results_tmp rfl _ _ _) hM.2.1 ?_
    rw [show a'.tmps.getD 4 undef = .bool c9 from hM.ev (t := 4) rfl]
    refine ⟨ret_bool ?_, below_then HB3.out hb⟩
    rw [HT.out, ← HC9.out, ← HC8.out, ← HC7.out, ← HC6.out, ← HC5.out, ← HC4.out, ← HC3.out, ← HC2.out, ← HC1.out]
    simp only [Bool.and_assoc]
end Go.Proofs.Ytebaojcfmkobjaa
