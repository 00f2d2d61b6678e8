/-
  Contracts: droverref0.EqMessage.
-/
import Derived.Test.YtebaojcfmkobjaaGr09
import Derived.Test.YtebaojcfmkobjaaGr10
import Derived.Test.YtebaojcfmkobjaaHdrS
set_option linter.unusedVariables false
set_option linter.unusedSimpArgs false
namespace Go.Proofs.Ytebaojcfmkobjaa
open Go.RowKit

theorem BtD.eq_iff {x y : BtD} : x = y ↔ x.a = y.a ∧ x.n = y.n ∧ x.l = y.l := ⟨fun h => by subst h; exact ⟨rfl, rfl, rfl⟩, fun ⟨h1, h2, h3⟩ => BtD.ext_ h1 h2 h3⟩
set_option maxRecDepth 100000 in
set_option maxHeartbeats 4000000 in
theorem ref0_EqMessage (x y : MsD) (v u : MsV) (w : World) (HS : Hid (MsS w x v)) (HZX : Hid (MsZ x v)) (HS' : Hid (MsS w y u)) (HZY : Hid (MsZ y u)) {C D : Array Value} (HC : Hid (C = msC x v)) (HD : Hid (D = msC y u)) {r : Bool} (hr : Hid (decide (x = y) = r)) :
    Calls Try.prog 25 #[.agg C, .agg D] w fun e w' => e = .returned (.bool r) ∧ Below w.heap.size w w' := by
  obtain ⟨b1, HB1⟩ : ∃ b, Hid ((x.k == y.k) = b) := ⟨_, rfl⟩
  obtain ⟨b2, HB2⟩ : ∃ b, Hid ((x.f == y.f) = b) := ⟨_, rfl⟩
  obtain ⟨b3, HB3⟩ : ∃ b, Hid ((x.t == y.t) = b) := ⟨_, rfl⟩
  obtain ⟨b4, HB4⟩ : ∃ b, Hid ((x.d == y.d) = b) := ⟨_, rfl⟩
  obtain ⟨b5, HB5⟩ : ∃ b, Hid ((decide (x.b.a = y.b.a ∧ x.b.n = y.b.n ∧ x.b.l = y.b.l)) = b) := ⟨_, rfl⟩
  obtain ⟨b6, HB6⟩ : ∃ b, Hid ((decide (x.h = y.h)) = b) := ⟨_, rfl⟩
  obtain ⟨b7, HB7⟩ : ∃ b, Hid ((decide (x.c = y.c)) = b) := ⟨_, rfl⟩
  obtain ⟨b8, HB8⟩ : ∃ b, Hid ((decide (x.s = y.s)) = b) := ⟨_, rfl⟩
  have HT : Hid (r = (b1 && (b2 && (b3 && (b4 && (b5 && (b6 && (b7 && b8)))))))) := by
    rw [Hid, ← hr.out, ← HB1.out, ← HB2.out, ← HB3.out, ← HB4.out, ← HB5.out, ← HB6.out, ← HB7.out, ← HB8.out, Bool.eq_iff_iff]
    simp [MsD.eq_iff, BtD.eq_iff]
  have HCS : Hid (C.size = 18) := by rw [Hid, HC.out]; rfl
  have HDS : Hid (D.size = 18) := by rw [Hid, HD.out]; rfl
  have HKA := hide ((Blk.new w 42 C).alloc (.cells D 42))
  have HKB := hide (Blk.new2 w (.cells C 42) 42 D)
  have HBW : Hid (Below w.heap.size w ((w.alloc (.cells C 42)).alloc (.cells D 42))) := (below_alloc' w _).alloc (by simp) _
  have HX := hide (HS.out.below HBW.out)
  have HY := hide (HS'.out.below HBW.out)
  clear HS HS' hr
  go_enter Try.func25, Try.ntmps25
  go_upto_region 1 with fail
  generalize (w.alloc (.cells C 42)).alloc (.cells D 42) = w3 at HKA HKB HBW HX HY ⊢
  have HQX : Hid (∀ W, Below w3.heap.size w3 W → ∀ j z, C[j]? = some z → W.cell? ⟨w.heap.size, j, none⟩ = some z) := fun W hW j z h => (HKA.out.later hW).at_ h
  have HQY : Hid (∀ W, Below w3.heap.size w3 W → ∀ j z, D[j]? = some z → W.cell? ⟨w.heap.size + 1, j, none⟩ = some z) := fun W hW j z h => (HKB.out.later hW).at_ h
  have fa_0 : ∀ (g o : Nat) (W : World), (Instr.fieldAt 42 (.pointer (some ⟨g, o, none⟩)) 0).run Try.prog W = .ok (.pointer (some ⟨g, o + 0, none⟩)) W := fun g o W => by simp [go_sem]
  have fa_1 : ∀ (g o : Nat) (W : World), (Instr.fieldAt 42 (.pointer (some ⟨g, o, none⟩)) 1).run Try.prog W = .ok (.pointer (some ⟨g, o + 1, none⟩)) W := fun g o W => by simp [go_sem]
  have fa_2 : ∀ (g o : Nat) (W : World), (Instr.fieldAt 42 (.pointer (some ⟨g, o, none⟩)) 2).run Try.prog W = .ok (.pointer (some ⟨g, o + 2, none⟩)) W := fun g o W => by simp [go_sem]
  have fa_3 : ∀ (g o : Nat) (W : World), (Instr.fieldAt 42 (.pointer (some ⟨g, o, none⟩)) 3).run Try.prog W = .ok (.pointer (some ⟨g, o + 3, none⟩)) W := fun g o W => by simp [go_sem]
  have fa_4 : ∀ (g o : Nat) (W : World), (Instr.fieldAt 42 (.pointer (some ⟨g, o, none⟩)) 4).run Try.prog W = .ok (.pointer (some ⟨g, o + 4, none⟩)) W := fun g o W => by simp [go_sem]
  have fa_5 : ∀ (g o : Nat) (W : World), (Instr.fieldAt 42 (.pointer (some ⟨g, o, none⟩)) 5).run Try.prog W = .ok (.pointer (some ⟨g, o + 7, none⟩)) W := fun g o W => by simp [go_sem]
  have fa_6 : ∀ (g o : Nat) (W : World), (Instr.fieldAt 42 (.pointer (some ⟨g, o, none⟩)) 6).run Try.prog W = .ok (.pointer (some ⟨g, o + 11, none⟩)) W := fun g o W => by simp [go_sem]
  have fa_7 : ∀ (g o : Nat) (W : World), (Instr.fieldAt 42 (.pointer (some ⟨g, o, none⟩)) 7).run Try.prog W = .ok (.pointer (some ⟨g, o + 17, none⟩)) W := fun g o W => by simp [go_sem]
  refine wp_region_lit ?_
  refine frame_off 59 [(2, .pointer (some ⟨w.heap.size, 0, none⟩)), (3, .pointer (some ⟨w.heap.size + 1, 0, none⟩))] (Frm.start rfl (by intro p hp; simp only [List.mem_cons, List.not_mem_nil, or_false] at hp; rcases hp with rfl | rfl <;> rfl)) (fun a hM => ?_)
  have hb : Below w3.heap.size w3 w3 := Below.refl _ _
  obtain ⟨w4, hw4⟩ : ∃ W, W = w3 := ⟨_, rfl⟩
  refine seg_cut6 (fun a' w' => Frm a' 59 [(10, .bool b1), (2, .pointer (some ⟨w.heap.size, 0, none⟩)), (3, .pointer (some ⟨w.heap.size + 1, 0, none⟩))] ∧ Below w3.heap.size w3 w') (fun K hK => ?_) (fun a' w' hS => ?_)
  · skip
    refine seg_val (w' := w3) hM rfl (by omega) rfl (v := .pointer (some ⟨w.heap.size, 0, none⟩)) (by simp [execOp, hM.ev (t := 2) (v := .pointer (some ⟨w.heap.size, 0, none⟩)) rfl, fa_0]) (fun a hM => ?_)
    have k0 := HQX.out _ hb 0 (.int .i64 x.k) (by rw [HC.out]; rfl)
    refine seg_val (w' := w3) hM rfl (by omega) rfl (v := .int .i64 x.k) (by simp only [execOp, hM.ev (t := 5) (v := .pointer (some ⟨w.heap.size, 0, none⟩)) rfl]; simp [go_sem, k0]) (fun a hM => ?_)
    clear k0
    refine seg_val (w' := w3) hM rfl (by omega) rfl (v := .pointer (some ⟨w.heap.size + 1, 0, none⟩)) (by simp [execOp, hM.ev (t := 3) (v := .pointer (some ⟨w.heap.size + 1, 0, none⟩)) rfl, fa_0]) (fun a hM => ?_)
    have k0 := HQY.out _ hb 0 (.int .i64 y.k) (by rw [HD.out]; rfl)
    refine seg_val (w' := w3) hM rfl (by omega) rfl (v := .int .i64 y.k) (by simp only [execOp, hM.ev (t := 7) (v := .pointer (some ⟨w.heap.size + 1, 0, none⟩)) rfl]; simp [go_sem, k0]) (fun a hM => ?_)
    clear k0
    have hq := HB1.out
    refine seg_val (w' := w3) hM rfl (by omega) rfl (v := .bool b1) (by simp only [execOp, hM.ev (t := 6) (v := .int .i64 x.k) rfl, hM.ev (t := 8) (v := .int .i64 y.k) rfl]; simp [go_sem, hq]) (fun a hM => ?_)
    clear hq
    refine seg_move hM rfl (by omega) rfl (.inl rfl) rfl (fun a hM => ?_)
    exact seg_nil (hK _ _ ⟨hM.weak (by intro p hp; simp only [List.mem_cons, List.not_mem_nil, or_false] at hp; rcases hp with rfl | rfl | rfl <;> rfl), hb⟩)
  obtain ⟨hM, hb⟩ := hS
  clear hw4
  obtain ⟨c1, HC1⟩ : ∃ c, Hid (b1 = c) := ⟨_, rfl⟩
  rw [HC1.out] at hM
  obtain ⟨c2, HC2⟩ : ∃ c, Hid ((c1 && b2) = c) := ⟨_, rfl⟩
  refine seg_cut7 (fun a' w' => Frm a' 59 [(17, .bool c2), (2, .pointer (some ⟨w.heap.size, 0, none⟩)), (3, .pointer (some ⟨w.heap.size + 1, 0, none⟩))] ∧ Below w3.heap.size w3 w') (fun K hK => ?_) (fun a' w' hS => ?_)
  · cases c1 with
    | false =>
      obtain rfl : c2 = false := HC2.out.symm
      refine seg_skip hM rfl (by omega) rfl rfl rfl rfl (fun a hM => ?_)
      refine seg_skip hM rfl (by omega) rfl rfl rfl rfl (fun a hM => ?_)
      refine seg_skip hM rfl (by omega) rfl rfl rfl rfl (fun a hM => ?_)
      refine seg_skip hM rfl (by omega) rfl rfl rfl rfl (fun a hM => ?_)
      refine seg_skip hM rfl (by omega) rfl rfl rfl rfl (fun a hM => ?_)
      refine seg_pick hM rfl (by omega) rfl rfl rfl rfl (fun a hM => ?_)
      refine seg_move hM rfl (by omega) rfl (.inl rfl) rfl (fun a hM => ?_)
      exact seg_nil (hK _ _ ⟨hM.weak (by intro p hp; simp only [List.mem_cons, List.not_mem_nil, or_false] at hp; rcases hp with rfl | rfl | rfl <;> rfl), hb⟩)
    | true =>
      obtain rfl : c2 = b2 := HC2.out.symm
      refine seg_same hM rfl (by omega) rfl rfl rfl (v := .pointer (some ⟨w.heap.size, 1, none⟩)) (by simp [execOp, hM.ev (t := 2) (v := .pointer (some ⟨w.heap.size, 0, none⟩)) rfl, fa_1]) (fun a hM => ?_)
      have k0 := HQX.out _ hb 1 (.int .i64 x.f) (by rw [HC.out]; rfl)
      refine seg_same hM rfl (by omega) rfl rfl rfl (v := .int .i64 x.f) (by simp only [execOp, hM.ev (t := 11) (v := .pointer (some ⟨w.heap.size, 1, none⟩)) rfl]; simp [go_sem, k0]) (fun a hM => ?_)
      clear k0
      refine seg_same hM rfl (by omega) rfl rfl rfl (v := .pointer (some ⟨w.heap.size + 1, 1, none⟩)) (by simp [execOp, hM.ev (t := 3) (v := .pointer (some ⟨w.heap.size + 1, 0, none⟩)) rfl, fa_1]) (fun a hM => ?_)
      have k0 := HQY.out _ hb 1 (.int .i64 y.f) (by rw [HD.out]; rfl)
      refine seg_same hM rfl (by omega) rfl rfl rfl (v := .int .i64 y.f) (by simp only [execOp, hM.ev (t := 13) (v := .pointer (some ⟨w.heap.size + 1, 1, none⟩)) rfl]; simp [go_sem, k0]) (fun a hM => ?_)
      clear k0
      have hq := HB2.out
      refine seg_same hM rfl (by omega) rfl rfl rfl (v := .bool c2) (by simp only [execOp, hM.ev (t := 12) (v := .int .i64 x.f) rfl, hM.ev (t := 14) (v := .int .i64 y.f) rfl]; simp [go_sem, hq]) (fun a hM => ?_)
      clear hq
      refine seg_pick hM rfl (by omega) rfl rfl rfl rfl (fun a hM => ?_)
      refine seg_move hM rfl (by omega) rfl (.inl rfl) rfl (fun a hM => ?_)
      exact seg_nil (hK _ _ ⟨hM.weak (by intro p hp; simp only [List.mem_cons, List.not_mem_nil, or_false] at hp; rcases hp with rfl | rfl | rfl <;> rfl), hb⟩)
  obtain ⟨hM, hb⟩ := hS
  obtain ⟨c3, HC3⟩ : ∃ c, Hid ((c2 && b3) = c) := ⟨_, rfl⟩
  refine seg_cut7 (fun a' w' => Frm a' 59 [(24, .bool c3), (2, .pointer (some ⟨w.heap.size, 0, none⟩)), (3, .pointer (some ⟨w.heap.size + 1, 0, none⟩))] ∧ Below w3.heap.size w3 w') (fun K hK => ?_) (fun a' w' hS => ?_)
  · cases c2 with
    | false =>
      obtain rfl : c3 = false := HC3.out.symm
      refine seg_skip hM rfl (by omega) rfl rfl rfl rfl (fun a hM => ?_)
      refine seg_skip hM rfl (by omega) rfl rfl rfl rfl (fun a hM => ?_)
      refine seg_skip hM rfl (by omega) rfl rfl rfl rfl (fun a hM => ?_)
      refine seg_skip hM rfl (by omega) rfl rfl rfl rfl (fun a hM => ?_)
      refine seg_skip hM rfl (by omega) rfl rfl rfl rfl (fun a hM => ?_)
      refine seg_pick hM rfl (by omega) rfl rfl rfl rfl (fun a hM => ?_)
      refine seg_move hM rfl (by omega) rfl (.inl rfl) rfl (fun a hM => ?_)
      exact seg_nil (hK _ _ ⟨hM.weak (by intro p hp; simp only [List.mem_cons, List.not_mem_nil, or_false] at hp; rcases hp with rfl | rfl | rfl <;> rfl), hb⟩)
    | true =>
      obtain rfl : c3 = b3 := HC3.out.symm
      refine seg_same hM rfl (by omega) rfl rfl rfl (v := .pointer (some ⟨w.heap.size, 2, none⟩)) (by simp [execOp, hM.ev (t := 2) (v := .pointer (some ⟨w.heap.size, 0, none⟩)) rfl, fa_2]) (fun a hM => ?_)
      have k0 := HQX.out _ hb 2 (.int .i64 x.t) (by rw [HC.out]; rfl)
      refine seg_same hM rfl (by omega) rfl rfl rfl (v := .int .i64 x.t) (by simp only [execOp, hM.ev (t := 18) (v := .pointer (some ⟨w.heap.size, 2, none⟩)) rfl]; simp [go_sem, k0]) (fun a hM => ?_)
      clear k0
      refine seg_same hM rfl (by omega) rfl rfl rfl (v := .pointer (some ⟨w.heap.size + 1, 2, none⟩)) (by simp [execOp, hM.ev (t := 3) (v := .pointer (some ⟨w.heap.size + 1, 0, none⟩)) rfl, fa_2]) (fun a hM => ?_)
      have k0 := HQY.out _ hb 2 (.int .i64 y.t) (by rw [HD.out]; rfl)
      refine seg_same hM rfl (by omega) rfl rfl rfl (v := .int .i64 y.t) (by simp only [execOp, hM.ev (t := 20) (v := .pointer (some ⟨w.heap.size + 1, 2, none⟩)) rfl]; simp [go_sem, k0]) (fun a hM => ?_)
      clear k0
      have hq := HB3.out
      refine seg_same hM rfl (by omega) rfl rfl rfl (v := .bool c3) (by simp only [execOp, hM.ev (t := 19) (v := .int .i64 x.t) rfl, hM.ev (t := 21) (v := .int .i64 y.t) rfl]; simp [go_sem, hq]) (fun a hM => ?_)
      clear hq
      refine seg_pick hM rfl (by omega) rfl rfl rfl rfl (fun a hM => ?_)
      refine seg_move hM rfl (by omega) rfl (.inl rfl) rfl (fun a hM => ?_)
      exact seg_nil (hK _ _ ⟨hM.weak (by intro p hp; simp only [List.mem_cons, List.not_mem_nil, or_false] at hp; rcases hp with rfl | rfl | rfl <;> rfl), hb⟩)
  obtain ⟨hM, hb⟩ := hS
  obtain ⟨c4, HC4⟩ : ∃ c, Hid ((c3 && b4) = c) := ⟨_, rfl⟩
  refine seg_cut7 (fun a' w' => Frm a' 59 [(31, .bool c4), (2, .pointer (some ⟨w.heap.size, 0, none⟩)), (3, .pointer (some ⟨w.heap.size + 1, 0, none⟩))] ∧ Below w3.heap.size w3 w') (fun K hK => ?_) (fun a' w' hS => ?_)
  · cases c3 with
    | false =>
      obtain rfl : c4 = false := HC4.out.symm
      refine seg_skip hM rfl (by omega) rfl rfl rfl rfl (fun a hM => ?_)
      refine seg_skip hM rfl (by omega) rfl rfl rfl rfl (fun a hM => ?_)
      refine seg_skip hM rfl (by omega) rfl rfl rfl rfl (fun a hM => ?_)
      refine seg_skip hM rfl (by omega) rfl rfl rfl rfl (fun a hM => ?_)
      refine seg_skip hM rfl (by omega) rfl rfl rfl rfl (fun a hM => ?_)
      refine seg_pick hM rfl (by omega) rfl rfl rfl rfl (fun a hM => ?_)
      refine seg_move hM rfl (by omega) rfl (.inl rfl) rfl (fun a hM => ?_)
      exact seg_nil (hK _ _ ⟨hM.weak (by intro p hp; simp only [List.mem_cons, List.not_mem_nil, or_false] at hp; rcases hp with rfl | rfl | rfl <;> rfl), hb⟩)
    | true =>
      obtain rfl : c4 = b4 := HC4.out.symm
      refine seg_same hM rfl (by omega) rfl rfl rfl (v := .pointer (some ⟨w.heap.size, 3, none⟩)) (by simp [execOp, hM.ev (t := 2) (v := .pointer (some ⟨w.heap.size, 0, none⟩)) rfl, fa_3]) (fun a hM => ?_)
      have k0 := HQX.out _ hb 3 (.int .i64 x.d) (by rw [HC.out]; rfl)
      refine seg_same hM rfl (by omega) rfl rfl rfl (v := .int .i64 x.d) (by simp only [execOp, hM.ev (t := 25) (v := .pointer (some ⟨w.heap.size, 3, none⟩)) rfl]; simp [go_sem, k0]) (fun a hM => ?_)
      clear k0
      refine seg_same hM rfl (by omega) rfl rfl rfl (v := .pointer (some ⟨w.heap.size + 1, 3, none⟩)) (by simp [execOp, hM.ev (t := 3) (v := .pointer (some ⟨w.heap.size + 1, 0, none⟩)) rfl, fa_3]) (fun a hM => ?_)
      have k0 := HQY.out _ hb 3 (.int .i64 y.d) (by rw [HD.out]; rfl)
      refine seg_same hM rfl (by omega) rfl rfl rfl (v := .int .i64 y.d) (by simp only [execOp, hM.ev (t := 27) (v := .pointer (some ⟨w.heap.size + 1, 3, none⟩)) rfl]; simp [go_sem, k0]) (fun a hM => ?_)
      clear k0
      have hq := HB4.out
      refine seg_same hM rfl (by omega) rfl rfl rfl (v := .bool c4) (by simp only [execOp, hM.ev (t := 26) (v := .int .i64 x.d) rfl, hM.ev (t := 28) (v := .int .i64 y.d) rfl]; simp [go_sem, hq]) (fun a hM => ?_)
      clear hq
      refine seg_pick hM rfl (by omega) rfl rfl rfl rfl (fun a hM => ?_)
      refine seg_move hM rfl (by omega) rfl (.inl rfl) rfl (fun a hM => ?_)
      exact seg_nil (hK _ _ ⟨hM.weak (by intro p hp; simp only [List.mem_cons, List.not_mem_nil, or_false] at hp; rcases hp with rfl | rfl | rfl <;> rfl), hb⟩)
  obtain ⟨hM, hb⟩ := hS
  obtain ⟨c5, HC5⟩ : ∃ c, Hid ((c4 && b5) = c) := ⟨_, rfl⟩
  refine seg_cut7 (fun a' w' => Frm a' 59 [(38, .bool c5), (2, .pointer (some ⟨w.heap.size, 0, none⟩)), (3, .pointer (some ⟨w.heap.size + 1, 0, none⟩))] ∧ Below w3.heap.size w3 w') (fun K hK => ?_) (fun a' w' hS => ?_)
  · cases c4 with
    | false =>
      obtain rfl : c5 = false := HC5.out.symm
      refine seg_skip hM rfl (by omega) rfl rfl rfl rfl (fun a hM => ?_)
      refine seg_skip hM rfl (by omega) rfl rfl rfl rfl (fun a hM => ?_)
      refine seg_skip hM rfl (by omega) rfl rfl rfl rfl (fun a hM => ?_)
      refine seg_skip hM rfl (by omega) rfl rfl rfl rfl (fun a hM => ?_)
      refine seg_skip hM rfl (by omega) rfl rfl rfl rfl (fun a hM => ?_)
      refine seg_pick hM rfl (by omega) rfl rfl rfl rfl (fun a hM => ?_)
      refine seg_move hM rfl (by omega) rfl (.inl rfl) rfl (fun a hM => ?_)
      exact seg_nil (hK _ _ ⟨hM.weak (by intro p hp; simp only [List.mem_cons, List.not_mem_nil, or_false] at hp; rcases hp with rfl | rfl | rfl <;> rfl), hb⟩)
    | true =>
      obtain rfl : c5 = b5 := HC5.out.symm
      refine seg_same hM rfl (by omega) rfl rfl rfl (v := .pointer (some ⟨w.heap.size, 4, none⟩)) (by simp [execOp, hM.ev (t := 2) (v := .pointer (some ⟨w.heap.size, 0, none⟩)) rfl, fa_4]) (fun a hM => ?_)
      have k0 := HQX.out _ hb 4 (.int .i64 x.b.a) (by rw [HC.out]; rfl)
      have k1 := HQX.out _ hb 5 (.int .i64 x.b.n) (by rw [HC.out]; rfl)
      have k2 := HQX.out _ hb 6 (.slice v.tx.A v.tx.n v.tx.c) (by rw [HC.out]; rfl)
      refine seg_same hM rfl (by omega) rfl rfl rfl (v := .agg #[.int .i64 x.b.a, .int .i64 x.b.n, .slice v.tx.A v.tx.n v.tx.c]) (by simp only [execOp, hM.ev (t := 32) (v := .pointer (some ⟨w.heap.size, 4, none⟩)) rfl]; simp [go_sem, k0, k1, k2]) (fun a hM => ?_)
      clear k0 k1 k2
      refine seg_same hM rfl (by omega) rfl rfl rfl (v := .pointer (some ⟨w.heap.size + 1, 4, none⟩)) (by simp [execOp, hM.ev (t := 3) (v := .pointer (some ⟨w.heap.size + 1, 0, none⟩)) rfl, fa_4]) (fun a hM => ?_)
      have k0 := HQY.out _ hb 4 (.int .i64 y.b.a) (by rw [HD.out]; rfl)
      have k1 := HQY.out _ hb 5 (.int .i64 y.b.n) (by rw [HD.out]; rfl)
      have k2 := HQY.out _ hb 6 (.slice u.tx.A u.tx.n u.tx.c) (by rw [HD.out]; rfl)
      refine seg_same hM rfl (by omega) rfl rfl rfl (v := .agg #[.int .i64 y.b.a, .int .i64 y.b.n, .slice u.tx.A u.tx.n u.tx.c]) (by simp only [execOp, hM.ev (t := 34) (v := .pointer (some ⟨w.heap.size + 1, 4, none⟩)) rfl]; simp [go_sem, k0, k1, k2]) (fun a hM => ?_)
      clear k0 k1 k2
      refine seg_callg hM rfl (by omega) rfl rfl rfl (f := 48) (args := #[.agg #[.int .i64 x.b.a, .int .i64 x.b.n, .slice v.tx.A v.tx.n v.tx.c], .agg #[.int .i64 y.b.a, .int .i64 y.b.n, .slice u.tx.A u.tx.n u.tx.c]]) (by simp only [execOp, resolve, List.map_toArray, List.map_cons, List.map_nil, hM.ev (t := 33) (v := .agg #[.int .i64 x.b.a, .int .i64 x.b.n, .slice v.tx.A v.tx.n v.tx.c]) rfl, hM.ev (t := 35) (v := .agg #[.int .i64 y.b.a, .int .i64 y.b.n, .slice u.tx.A u.tx.n u.tx.c]) rfl]; simp [go_sem, Act.eval]) (ref0_EqBatch x.b.a x.b.n y.b.a y.b.n _ (HX.out.below hb).tx HZX.out.tx (HY.out.below hb).tx HZY.out.tx HB5) (fun a w9 hM hb9 => ?_)
      have hb := below_then hb hb9
      clear hb9
      refine seg_pick hM rfl (by omega) rfl rfl rfl rfl (fun a hM => ?_)
      refine seg_move hM rfl (by omega) rfl (.inl rfl) rfl (fun a hM => ?_)
      exact seg_nil (hK _ _ ⟨hM.weak (by intro p hp; simp only [List.mem_cons, List.not_mem_nil, or_false] at hp; rcases hp with rfl | rfl | rfl <;> rfl), hb⟩)
  obtain ⟨hM, hb⟩ := hS
  obtain ⟨c6, HC6⟩ : ∃ c, Hid ((c5 && b6) = c) := ⟨_, rfl⟩
  refine seg_cut7 (fun a' w' => Frm a' 59 [(45, .bool c6), (2, .pointer (some ⟨w.heap.size, 0, none⟩)), (3, .pointer (some ⟨w.heap.size + 1, 0, none⟩))] ∧ Below w3.heap.size w3 w') (fun K hK => ?_) (fun a' w' hS => ?_)
  · cases c5 with
    | false =>
      obtain rfl : c6 = false := HC6.out.symm
      refine seg_skip hM rfl (by omega) rfl rfl rfl rfl (fun a hM => ?_)
      refine seg_skip hM rfl (by omega) rfl rfl rfl rfl (fun a hM => ?_)
      refine seg_skip hM rfl (by omega) rfl rfl rfl rfl (fun a hM => ?_)
      refine seg_skip hM rfl (by omega) rfl rfl rfl rfl (fun a hM => ?_)
      refine seg_skip hM rfl (by omega) rfl rfl rfl rfl (fun a hM => ?_)
      refine seg_pick hM rfl (by omega) rfl rfl rfl rfl (fun a hM => ?_)
      refine seg_move hM rfl (by omega) rfl (.inl rfl) rfl (fun a hM => ?_)
      exact seg_nil (hK _ _ ⟨hM.weak (by intro p hp; simp only [List.mem_cons, List.not_mem_nil, or_false] at hp; rcases hp with rfl | rfl | rfl <;> rfl), hb⟩)
    | true =>
      obtain rfl : c6 = b6 := HC6.out.symm
      refine seg_same hM rfl (by omega) rfl rfl rfl (v := .pointer (some ⟨w.heap.size, 7, none⟩)) (by simp [execOp, hM.ev (t := 2) (v := .pointer (some ⟨w.heap.size, 0, none⟩)) rfl, fa_5]) (fun a hM => ?_)
      have k0 := HQX.out _ hb 7 (.int .i64 x.h.a) (by rw [HC.out]; rfl)
      have k1 := HQX.out _ hb 8 (.int .i64 x.h.r) (by rw [HC.out]; rfl)
      have k2 := HQX.out _ hb 9 (.slice v.hb.A v.hb.n v.hb.c) (by rw [HC.out]; rfl)
      have k3 := HQX.out _ hb 10 (.slice v.hp.A v.hp.n v.hp.c) (by rw [HC.out]; rfl)
      refine seg_same hM rfl (by omega) rfl rfl rfl (v := .agg #[.int .i64 x.h.a, .int .i64 x.h.r, .slice v.hb.A v.hb.n v.hb.c, .slice v.hp.A v.hp.n v.hp.c]) (by simp only [execOp, hM.ev (t := 39) (v := .pointer (some ⟨w.heap.size, 7, none⟩)) rfl]; simp [go_sem, k0, k1, k2, k3]) (fun a hM => ?_)
      clear k0 k1 k2 k3
      refine seg_same hM rfl (by omega) rfl rfl rfl (v := .pointer (some ⟨w.heap.size + 1, 7, none⟩)) (by simp [execOp, hM.ev (t := 3) (v := .pointer (some ⟨w.heap.size + 1, 0, none⟩)) rfl, fa_5]) (fun a hM => ?_)
      have k0 := HQY.out _ hb 7 (.int .i64 y.h.a) (by rw [HD.out]; rfl)
      have k1 := HQY.out _ hb 8 (.int .i64 y.h.r) (by rw [HD.out]; rfl)
      have k2 := HQY.out _ hb 9 (.slice u.hb.A u.hb.n u.hb.c) (by rw [HD.out]; rfl)
      have k3 := HQY.out _ hb 10 (.slice u.hp.A u.hp.n u.hp.c) (by rw [HD.out]; rfl)
      refine seg_same hM rfl (by omega) rfl rfl rfl (v := .agg #[.int .i64 y.h.a, .int .i64 y.h.r, .slice u.hb.A u.hb.n u.hb.c, .slice u.hp.A u.hp.n u.hp.c]) (by simp only [execOp, hM.ev (t := 41) (v := .pointer (some ⟨w.heap.size + 1, 7, none⟩)) rfl]; simp [go_sem, k0, k1, k2, k3]) (fun a hM => ?_)
      clear k0 k1 k2 k3
      refine seg_callg hM rfl (by omega) rfl rfl rfl (f := 49) (args := #[.agg #[.int .i64 x.h.a, .int .i64 x.h.r, .slice v.hb.A v.hb.n v.hb.c, .slice v.hp.A v.hp.n v.hp.c], .agg #[.int .i64 y.h.a, .int .i64 y.h.r, .slice u.hb.A u.hb.n u.hb.c, .slice u.hp.A u.hp.n u.hp.c]]) (by simp only [execOp, resolve, List.map_toArray, List.map_cons, List.map_nil, hM.ev (t := 40) (v := .agg #[.int .i64 x.h.a, .int .i64 x.h.r, .slice v.hb.A v.hb.n v.hb.c, .slice v.hp.A v.hp.n v.hp.c]) rfl, hM.ev (t := 42) (v := .agg #[.int .i64 y.h.a, .int .i64 y.h.r, .slice u.hb.A u.hb.n u.hb.c, .slice u.hp.A u.hp.n u.hp.c]) rfl]; simp [go_sem, Act.eval]) (ref0_EqHeader x.h y.h _ (HX.out.below hb).hb (HX.out.below hb).hp (HY.out.below hb).hb (HY.out.below hb).hp HZX.out.hb HZX.out.hp HZY.out.hb HZY.out.hp HB6) (fun a w9 hM hb9 => ?_)
      have hb := below_then hb hb9
      clear hb9
      refine seg_pick hM rfl (by omega) rfl rfl rfl rfl (fun a hM => ?_)
      refine seg_move hM rfl (by omega) rfl (.inl rfl) rfl (fun a hM => ?_)
      exact seg_nil (hK _ _ ⟨hM.weak (by intro p hp; simp only [List.mem_cons, List.not_mem_nil, or_false] at hp; rcases hp with rfl | rfl | rfl <;> rfl), hb⟩)
  obtain ⟨hM, hb⟩ := hS
  obtain ⟨c7, HC7⟩ : ∃ c, Hid ((c6 && b7) = c) := ⟨_, rfl⟩
  refine seg_cut7 (fun a' w' => Frm a' 59 [(52, .bool c7), (2, .pointer (some ⟨w.heap.size, 0, none⟩)), (3, .pointer (some ⟨w.heap.size + 1, 0, none⟩))] ∧ Below w3.heap.size w3 w') (fun K hK => ?_) (fun a' w' hS => ?_)
  · cases c6 with
    | false =>
      obtain rfl : c7 = false := HC7.out.symm
      refine seg_skip hM rfl (by omega) rfl rfl rfl rfl (fun a hM => ?_)
      refine seg_skip hM rfl (by omega) rfl rfl rfl rfl (fun a hM => ?_)
      refine seg_skip hM rfl (by omega) rfl rfl rfl rfl (fun a hM => ?_)
      refine seg_skip hM rfl (by omega) rfl rfl rfl rfl (fun a hM => ?_)
      refine seg_skip hM rfl (by omega) rfl rfl rfl rfl (fun a hM => ?_)
      refine seg_pick hM rfl (by omega) rfl rfl rfl rfl (fun a hM => ?_)
      refine seg_move hM rfl (by omega) rfl (.inl rfl) rfl (fun a hM => ?_)
      exact seg_nil (hK _ _ ⟨hM.weak (by intro p hp; simp only [List.mem_cons, List.not_mem_nil, or_false] at hp; rcases hp with rfl | rfl | rfl <;> rfl), hb⟩)
    | true =>
      obtain rfl : c7 = b7 := HC7.out.symm
      refine seg_same hM rfl (by omega) rfl rfl rfl (v := .pointer (some ⟨w.heap.size, 11, none⟩)) (by simp [execOp, hM.ev (t := 2) (v := .pointer (some ⟨w.heap.size, 0, none⟩)) rfl, fa_6]) (fun a hM => ?_)
      have k0 := HQX.out _ hb 11 (.int .i64 x.c.h.a) (by rw [HC.out]; rfl)
      have k1 := HQX.out _ hb 12 (.int .i64 x.c.h.r) (by rw [HC.out]; rfl)
      have k2 := HQX.out _ hb 13 (.slice v.cb.A v.cb.n v.cb.c) (by rw [HC.out]; rfl)
      have k3 := HQX.out _ hb 14 (.slice v.cp.A v.cp.n v.cp.c) (by rw [HC.out]; rfl)
      have k4 := HQX.out _ hb 15 (.int .i64 x.c.d) (by rw [HC.out]; rfl)
      have k5 := HQX.out _ hb 16 (.slice v.cs.A v.cs.n v.cs.c) (by rw [HC.out]; rfl)
      refine seg_same hM rfl (by omega) rfl rfl rfl (v := .agg #[.int .i64 x.c.h.a, .int .i64 x.c.h.r, .slice v.cb.A v.cb.n v.cb.c, .slice v.cp.A v.cp.n v.cp.c, .int .i64 x.c.d, .slice v.cs.A v.cs.n v.cs.c]) (by simp only [execOp, hM.ev (t := 46) (v := .pointer (some ⟨w.heap.size, 11, none⟩)) rfl]; simp [go_sem, k0, k1, k2, k3, k4, k5]) (fun a hM => ?_)
      clear k0 k1 k2 k3 k4 k5
      refine seg_same hM rfl (by omega) rfl rfl rfl (v := .pointer (some ⟨w.heap.size + 1, 11, none⟩)) (by simp [execOp, hM.ev (t := 3) (v := .pointer (some ⟨w.heap.size + 1, 0, none⟩)) rfl, fa_6]) (fun a hM => ?_)
      have k0 := HQY.out _ hb 11 (.int .i64 y.c.h.a) (by rw [HD.out]; rfl)
      have k1 := HQY.out _ hb 12 (.int .i64 y.c.h.r) (by rw [HD.out]; rfl)
      have k2 := HQY.out _ hb 13 (.slice u.cb.A u.cb.n u.cb.c) (by rw [HD.out]; rfl)
      have k3 := HQY.out _ hb 14 (.slice u.cp.A u.cp.n u.cp.c) (by rw [HD.out]; rfl)
      have k4 := HQY.out _ hb 15 (.int .i64 y.c.d) (by rw [HD.out]; rfl)
      have k5 := HQY.out _ hb 16 (.slice u.cs.A u.cs.n u.cs.c) (by rw [HD.out]; rfl)
      refine seg_same hM rfl (by omega) rfl rfl rfl (v := .agg #[.int .i64 y.c.h.a, .int .i64 y.c.h.r, .slice u.cb.A u.cb.n u.cb.c, .slice u.cp.A u.cp.n u.cp.c, .int .i64 y.c.d, .slice u.cs.A u.cs.n u.cs.c]) (by simp only [execOp, hM.ev (t := 48) (v := .pointer (some ⟨w.heap.size + 1, 11, none⟩)) rfl]; simp [go_sem, k0, k1, k2, k3, k4, k5]) (fun a hM => ?_)
      clear k0 k1 k2 k3 k4 k5
      refine seg_callg hM rfl (by omega) rfl rfl rfl (f := 50) (args := #[.agg #[.int .i64 x.c.h.a, .int .i64 x.c.h.r, .slice v.cb.A v.cb.n v.cb.c, .slice v.cp.A v.cp.n v.cp.c, .int .i64 x.c.d, .slice v.cs.A v.cs.n v.cs.c], .agg #[.int .i64 y.c.h.a, .int .i64 y.c.h.r, .slice u.cb.A u.cb.n u.cb.c, .slice u.cp.A u.cp.n u.cp.c, .int .i64 y.c.d, .slice u.cs.A u.cs.n u.cs.c]]) (by simp only [execOp, resolve, List.map_toArray, List.map_cons, List.map_nil, hM.ev (t := 47) (v := .agg #[.int .i64 x.c.h.a, .int .i64 x.c.h.r, .slice v.cb.A v.cb.n v.cb.c, .slice v.cp.A v.cp.n v.cp.c, .int .i64 x.c.d, .slice v.cs.A v.cs.n v.cs.c]) rfl, hM.ev (t := 49) (v := .agg #[.int .i64 y.c.h.a, .int .i64 y.c.h.r, .slice u.cb.A u.cb.n u.cb.c, .slice u.cp.A u.cp.n u.cp.c, .int .i64 y.c.d, .slice u.cs.A u.cs.n u.cs.c]) rfl]; simp [go_sem, Act.eval]) (ref0_EqCert x.c y.c _ (HX.out.below hb).cb (HX.out.below hb).cp (HX.out.below hb).cs (HY.out.below hb).cb (HY.out.below hb).cp (HY.out.below hb).cs HZX.out.cb HZX.out.cp HZX.out.cs HZY.out.cb HZY.out.cp HZY.out.cs HB7) (fun a w9 hM hb9 => ?_)
      have hb := below_then hb hb9
      clear hb9
      refine seg_pick hM rfl (by omega) rfl rfl rfl rfl (fun a hM => ?_)
      refine seg_move hM rfl (by omega) rfl (.inl rfl) rfl (fun a hM => ?_)
      exact seg_nil (hK _ _ ⟨hM.weak (by intro p hp; simp only [List.mem_cons, List.not_mem_nil, or_false] at hp; rcases hp with rfl | rfl | rfl <;> rfl), hb⟩)
  obtain ⟨hM, hb⟩ := hS
  obtain ⟨c8, HC8⟩ : ∃ c, Hid ((c7 && b8) = c) := ⟨_, rfl⟩
  refine seg_cut7 (fun a' w' => Frm a' 59 [(4, .bool c8), (2, .pointer (some ⟨w.heap.size, 0, none⟩)), (3, .pointer (some ⟨w.heap.size + 1, 0, none⟩))] ∧ Below w3.heap.size w3 w') (fun K hK => ?_) (fun a' w' hS => ?_)
  · cases c7 with
    | false =>
      obtain rfl : c8 = false := HC8.out.symm
      refine seg_skip hM rfl (by omega) rfl rfl rfl rfl (fun a hM => ?_)
      refine seg_skip hM rfl (by omega) rfl rfl rfl rfl (fun a hM => ?_)
      refine seg_skip hM rfl (by omega) rfl rfl rfl rfl (fun a hM => ?_)
      refine seg_skip hM rfl (by omega) rfl rfl rfl rfl (fun a hM => ?_)
      refine seg_skip hM rfl (by omega) rfl rfl rfl rfl (fun a hM => ?_)
      refine seg_pick hM rfl (by omega) rfl rfl rfl rfl (fun a hM => ?_)
      refine seg_move hM rfl (by omega) rfl (.inr rfl) rfl (fun a hM => ?_)
      exact seg_nil (hK _ _ ⟨hM.weak (by intro p hp; simp only [List.mem_cons, List.not_mem_nil, or_false] at hp; rcases hp with rfl | rfl | rfl <;> rfl), hb⟩)
    | true =>
      obtain rfl : c8 = b8 := HC8.out.symm
      refine seg_same hM rfl (by omega) rfl rfl rfl (v := .pointer (some ⟨w.heap.size, 17, none⟩)) (by simp [execOp, hM.ev (t := 2) (v := .pointer (some ⟨w.heap.size, 0, none⟩)) rfl, fa_7]) (fun a hM => ?_)
      have k0 := HQX.out _ hb 17 (.slice v.ds.A v.ds.n v.ds.c) (by rw [HC.out]; rfl)
      refine seg_same hM rfl (by omega) rfl rfl rfl (v := .slice v.ds.A v.ds.n v.ds.c) (by simp only [execOp, hM.ev (t := 53) (v := .pointer (some ⟨w.heap.size, 17, none⟩)) rfl]; simp [go_sem, k0]) (fun a hM => ?_)
      clear k0
      refine seg_same hM rfl (by omega) rfl rfl rfl (v := .pointer (some ⟨w.heap.size + 1, 17, none⟩)) (by simp [execOp, hM.ev (t := 3) (v := .pointer (some ⟨w.heap.size + 1, 0, none⟩)) rfl, fa_7]) (fun a hM => ?_)
      have k0 := HQY.out _ hb 17 (.slice u.ds.A u.ds.n u.ds.c) (by rw [HD.out]; rfl)
      refine seg_same hM rfl (by omega) rfl rfl rfl (v := .slice u.ds.A u.ds.n u.ds.c) (by simp only [execOp, hM.ev (t := 55) (v := .pointer (some ⟨w.heap.size + 1, 17, none⟩)) rfl]; simp [go_sem, k0]) (fun a hM => ?_)
      clear k0
      refine seg_callg hM rfl (by omega) rfl rfl rfl (f := 26) (args := #[.slice v.ds.A v.ds.n v.ds.c, .slice u.ds.A u.ds.n u.ds.c]) (by simp only [execOp, resolve, List.map_toArray, List.map_cons, List.map_nil, hM.ev (t := 54) (v := .slice v.ds.A v.ds.n v.ds.c) rfl, hM.ev (t := 56) (v := .slice u.ds.A u.ds.n u.ds.c) rfl]; simp [go_sem, Act.eval]) (eqNumbers_b _ (HX.out.below hb).ds HZX.out.ds (HY.out.below hb).ds HZY.out.ds HB8) (fun a w9 hM hb9 => ?_)
      have hb := below_then hb hb9
      clear hb9
      refine seg_pick hM rfl (by omega) rfl rfl rfl rfl (fun a hM => ?_)
      refine seg_move hM rfl (by omega) rfl (.inr rfl) rfl (fun a hM => ?_)
      exact seg_nil (hK _ _ ⟨hM.weak (by intro p hp; simp only [List.mem_cons, List.not_mem_nil, or_false] at hp; rcases hp with rfl | rfl | rfl <;> rfl), hb⟩)
  obtain ⟨hM, hb⟩ := hS
  refine wpList_nil ?_
  simp only [Exit.then]
  go_step
  apply wp_ret
  refine bodyPost_ret (results_tmp rfl _ _ _) hM.2.1 ?_
  rw [show a'.tmps.getD 4 undef = .bool c8 from hM.ev (t := 4) rfl]
  refine ⟨ret_bool ?_, below_then HBW.out hb⟩
  rw [HT.out, ← HC8.out, ← HC7.out, ← HC6.out, ← HC5.out, ← HC4.out, ← HC3.out, ← HC2.out, ← HC1.out]
  simp only [Bool.and_assoc]
end Go.Proofs.Ytebaojcfmkobjaa
