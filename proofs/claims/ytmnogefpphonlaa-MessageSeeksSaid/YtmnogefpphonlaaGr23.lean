/-
  Texts joined: words and contracts that later texts use; lemmas alone, no conditions of a statement.
-/
import Derived.Test.YtmnogefpphonlaaMsgV
import Derived.Test.YtmnogefpphonlaaGr02
import Derived.Test.YtmnogefpphonlaaGr03
import Derived.Test.YtmnogefpphonlaaGr10
import Derived.Deep.LoopGhost
import Derived.Deep.MidRow
set_option linter.unusedVariables false
set_option linter.unusedSimpArgs false
/-
  Contracts of the law's helpers of layer 7: that it wakes.
-/
namespace Go.Proofs.Ytmnogefpphonlaa
open Go.RowKit

def wkM : MsD := ⟨5, 1, 2, 3, zB, zH, zC, []⟩
theorem wkM_may : mayM 4 wkM = true := by decide
theorem zV_s (w : World) (x : MsD) (h : x.b = zB ∧ x.h = zH ∧ x.c = zC ∧ x.s = []) : MsS w x zV := by
  obtain ⟨h1, h2, h3, h4⟩ := h
  refine ⟨?_, ?_, ?_, ?_, ?_, ?_, ?_⟩ <;> simp only [h1, h2, h3, h4] <;> exact Sl.nil_
theorem zV_z (x : MsD) (h : x.b = zB ∧ x.h = zH ∧ x.c = zC ∧ x.s = []) : MsZ x zV := by
  obtain ⟨h1, h2, h3, h4⟩ := h
  exact ⟨(by intro t ht; simp [h1, zB] at ht), by simp [zV, nilV], by simp [zV, nilV], by simp [zV, nilV], by simp [zV, nilV], by simp [zV, nilV], by simp [zV, nilV], by simp [zV, nilV]⟩
theorem law7_num (n : Int) (w : World) : Calls Try.prog 18 #[.int .i64 n] w fun e w' => e = .returned (.int .i64 n) ∧ w = w' := by
  go_enter Try.func18, Try.ntmps18
  go_wp2_with fail
  go_ret
  exact ⟨rfl, rfl⟩
set_option maxRecDepth 100000 in
set_option maxHeartbeats 2000000 in
theorem law7_wakes (w : World) : Calls Try.prog 22 #[] w fun e w' => e = .returned (.bool true) ∧ Below w.heap.size w w' := by
  obtain ⟨C, HC⟩ : ∃ C : Array Value, Hid (C = msC wkM zV) := ⟨_, rfl⟩
  have HCS : Hid (C.size = 18) := by rw [Hid, HC.out]; rfl
  have HC1 : Hid (∀ z ∈ C.toList, z.oneCell' = true) := by rw [HC.out]; simp [Hid, msC, SlV.v, Value.oneCell']
  obtain ⟨g, hg⟩ : ∃ g, w.heap.size = g := ⟨_, rfl⟩
  go_enter Try.func22, Try.ntmps22
  go_upto_region 1 with fail
  refine wp_region_lit ?_
  refine frame_off 30 [] (Frm.start rfl (by intro p hp; cases hp)) (fun a hM => ?_)
  refine seg_cut3 (fun a' w' => Frm a' 30 [(1, .pointer (some ⟨w.heap.size, 0, none⟩))] ∧ Hid (Blk w' w.heap.size 32 C) ∧ Hid (Below w.heap.size w w')) (fun K hK => ?_) (fun a' w' hS => ?_)
  · refine seg_val hM rfl (by omega) rfl (v := .agg C) (w' := w) (by rw [HC.out]; simp [execOp, go_sem, Act.eval, msC, wkM, zV, nilV, SlV.v, zB, zH, zC]) (fun a hM => ?_)
    refine seg_val hM rfl (by omega) rfl (v := .pointer (some ⟨w.heap.size, 0, none⟩)) (w' := w.alloc (.cells #[.int .i64 0, .int .i64 0, .int .i64 0, .int .i64 0, .int .i64 0, .int .i64 0, .slice none 0 0, .int .i64 0, .int .i64 0, .slice none 0 0, .slice none 0 0, .int .i64 0, .int .i64 0, .slice none 0 0, .slice none 0 0, .int .i64 0, .slice none 0 0, .slice none 0 0] 32)) (by simp only [execOp]; simp [go_sem]) (fun a hM => ?_)
    refine seg_store_row hM rfl rfl rfl w.heap.size rfl 32 #[.int .i64 0, .int .i64 0, .int .i64 0, .int .i64 0, .int .i64 0, .int .i64 0, .slice none 0 0, .int .i64 0, .int .i64 0, .slice none 0 0, .slice none 0 0, .int .i64 0, .int .i64 0, .slice none 0 0, .slice none 0 0, .int .i64 0, .slice none 0 0, .slice none 0 0] (.agg C) rfl (Blk.new w 32 #[.int .i64 0, .int .i64 0, .int .i64 0, .int .i64 0, .int .i64 0, .int .i64 0, .slice none 0 0, .int .i64 0, .int .i64 0, .slice none 0 0, .slice none 0 0, .int .i64 0, .int .i64 0, .slice none 0 0, .slice none 0 0, .int .i64 0, .slice none 0 0, .slice none 0 0]) (by show _ = some C.size; rw [HCS.out]; exact Try.infoMsg) (by show _ = C.size; rw [HCS.out]; rfl) HC1.out (fun wf KF hgf => ?_)
    exact seg_nil (hK _ _ ⟨hM.weak (by intro p hp; simp only [List.mem_cons, List.not_mem_nil, or_false] at hp; subst hp; rfl), hide KF, hide (below_of_grown (below_alloc' w _) hgf (by simp) (by omega))⟩)
  obtain ⟨hM, KA, HB⟩ := hS
  refine wpList_nil ?_
  simp only [Exit.then]
  go_step
  obtain ⟨L, HLn⟩ : ∃ L, Hid ((msgB wkM).length = L) := ⟨_, rfl⟩
  refine wp_seq_k fun K2 hK2 => ?_
  refine wp_region_lit ?_
  refine seg_cut7 (fun a' w' => ∃ (A : Option Addr) (c : Nat), Frm a' 30 [(1, .pointer (some ⟨w.heap.size, 0, none⟩)), (2, .slice A L c), (3, .int .i64 0)] ∧ Hid (Blk w' w.heap.size 32 C) ∧ Hid (Sl w' 1 A L (bytes8 (msgB wkM))) ∧ Hid (L ≤ c ∧ c ≤ 9223372036854775807) ∧ Hid (Below w.heap.size w w')) (fun K hK => ?_) (fun a' w' hS => ?_)
  · refine seg_val hM rfl (by omega) rfl (v := .agg C) (w' := w') (run_load_blk rfl w.heap.size (hM.ev (t := 1) rfl) 32 C _ KA.out Try.underlying32 rfl (by rw [HCS.out]; exact Try.infoMsg)) (fun a hM => ?_)
    refine seg_callv (R := fun V W => ∃ v1, V = .tuple #[v1, .int .i64 0] ∧ W.ownsRow w'.heap.size 5 1 v1 (msgB wkM).length (bytes8 (msgB wkM)) ∧ Below w'.heap.size w' W) hM rfl (by omega) rfl (f := 20) (args := #[.agg C, .int .i64 4]) (by simp only [execOp, resolve, List.map_toArray, List.map_cons, List.map_nil, hM.ev (t := 8) (v := .agg C) rfl]; simp [go_sem, Act.eval]) ((message_Encode 4 wkM zV w' (hide (zV_s _ _ ⟨rfl, rfl, rfl, rfl⟩)) (hide (zV_z _ ⟨rfl, rfl, rfl, rfl⟩)) HC (hide wkM_may)).mono (by rintro e W ⟨v1, rfl, ho, hb⟩; exact ⟨_, rfl, v1, rfl, ho, hb⟩)) (fun V a wb hM hR => ?_)
    obtain ⟨v1, rfl, ho, hb⟩ := hR
    rw [HLn.out] at ho
    obtain ⟨A, c, rfl, hc1, hc2⟩ := own_slice_cap ho
    refine seg_move hM rfl (by omega) rfl (.inl rfl) rfl (fun a hM => ?_)
    refine seg_val hM rfl (by omega) rfl (v := .slice A L c) (w' := wb) (by simp only [execOp, hM.ev (t := 7) (v := .tuple #[.slice A L c, .int .i64 0]) rfl]; simp [go_sem]) (fun a hM => ?_)
    refine seg_val hM rfl (by omega) rfl (v := .int .i64 0) (w' := wb) (by simp only [execOp, hM.ev (t := 7) (v := .tuple #[.slice A L c, .int .i64 0]) rfl]; simp [go_sem]) (fun a hM => ?_)
    refine seg_move hM rfl (by omega) rfl (.inr rfl) rfl (fun a hM => ?_)
    refine seg_move hM rfl (by omega) rfl (.inr rfl) rfl (fun a hM => ?_)
    unfold maxLen at hc2
    exact seg_nil (hK _ _ ⟨A, c, hM.weak (by intro p hp; simp only [List.mem_cons, List.not_mem_nil, or_false] at hp; rcases hp with rfl | rfl | rfl <;> rfl), hide (KA.out.later hb), hide (Sl.of_own ho), ⟨hc1, by omega⟩, hide (below_then HB.out hb)⟩)
  obtain ⟨A, c, hM, KA, HSl, HLC, HB⟩ := hS
  refine wpList_nil ?_
  simp only [Exit.then]
  refine hK2 _ _ ?_
  refine wp_seq_k fun K3 hK3 => ?_
  refine wp_region_lit ?_
  refine seg_cut8 (fun a' w' => ∃ (D : Array Value) (u : MsV) (g4 : Nat), Frm a' 30 [(1, .pointer (some ⟨w.heap.size, 0, none⟩)), (3, .int .i64 0), (4, .pointer (some ⟨g4, 0, none⟩)), (5, .int .i64 0)] ∧ Hid (Blk w' w.heap.size 32 C) ∧ Hid (Blk w' g4 32 D) ∧ Hid (D = msC wkM u ∧ MsS w' wkM u ∧ MsZ wkM u) ∧ Hid (Below w.heap.size w w')) (fun K hK => ?_) (fun a' w' hS => ?_)
  · refine seg_move hM rfl (by omega) rfl (.inl rfl) rfl (fun a hM => ?_)
    refine seg_callv (R := fun V W => ∃ D u, V = .tuple #[.agg D, .int .i64 0] ∧ Hid (D = msC wkM u ∧ MsS W wkM u ∧ MsZ wkM u) ∧ Below w'.heap.size w' W) hM rfl (by omega) rfl (f := 16) (args := #[.slice A L c, .int .i64 4]) (by simp only [execOp, resolve, List.map_toArray, List.map_cons, List.map_nil, hM.ev (t := 13) (v := .slice A L c) rfl]; simp [go_sem, Act.eval]) ((message_Decode 4 w' HSl.out HLC.out.1 HLC.out.2 (hide (decM_there wkM_may))).mono (by rintro e W ⟨D, u, rfl, ho, hb⟩; exact ⟨_, rfl, D, u, rfl, ho, hb⟩)) (fun V a wb hM hR => ?_)
    obtain ⟨D, u, rfl, ho, hb⟩ := hR
    refine seg_move hM rfl (by omega) rfl (.inl rfl) rfl (fun a hM => ?_)
    refine seg_val hM rfl (by omega) rfl (v := .agg D) (w' := wb) (by simp only [execOp, hM.ev (t := 12) (v := .tuple #[.agg D, .int .i64 0]) rfl]; simp [go_sem]) (fun a hM => ?_)
    refine seg_val hM rfl (by omega) rfl (v := .int .i64 0) (w' := wb) (by simp only [execOp, hM.ev (t := 12) (v := .tuple #[.agg D, .int .i64 0]) rfl]; simp [go_sem]) (fun a hM => ?_)
    refine seg_val hM rfl (by omega) rfl (v := .pointer (some ⟨wb.heap.size, 0, none⟩)) (w' := wb.alloc (.cells #[.int .i64 0, .int .i64 0, .int .i64 0, .int .i64 0, .int .i64 0, .int .i64 0, .slice none 0 0, .int .i64 0, .int .i64 0, .slice none 0 0, .slice none 0 0, .int .i64 0, .int .i64 0, .slice none 0 0, .slice none 0 0, .int .i64 0, .slice none 0 0, .slice none 0 0] 32)) (by simp only [execOp]; simp [go_sem]) (fun a hM => ?_)
    have HDS : D.size = 18 := by rw [ho.out.1]; rfl
    have HBW := below_then HB.out hb
    have ha := below_alloc' wb (.cells #[.int .i64 0, .int .i64 0, .int .i64 0, .int .i64 0, .int .i64 0, .int .i64 0, .slice none 0 0, .int .i64 0, .int .i64 0, .slice none 0 0, .slice none 0 0, .int .i64 0, .int .i64 0, .slice none 0 0, .slice none 0 0, .int .i64 0, .slice none 0 0, .slice none 0 0] 32)
    refine seg_store_row hM rfl rfl rfl wb.heap.size rfl 32 #[.int .i64 0, .int .i64 0, .int .i64 0, .int .i64 0, .int .i64 0, .int .i64 0, .slice none 0 0, .int .i64 0, .int .i64 0, .slice none 0 0, .slice none 0 0, .int .i64 0, .int .i64 0, .slice none 0 0, .slice none 0 0, .int .i64 0, .slice none 0 0, .slice none 0 0] (.agg D) rfl (Blk.new wb 32 #[.int .i64 0, .int .i64 0, .int .i64 0, .int .i64 0, .int .i64 0, .int .i64 0, .slice none 0 0, .int .i64 0, .int .i64 0, .slice none 0 0, .slice none 0 0, .int .i64 0, .int .i64 0, .slice none 0 0, .slice none 0 0, .int .i64 0, .slice none 0 0, .slice none 0 0]) (by show _ = some D.size; rw [HDS]; exact Try.infoMsg) (by show _ = D.size; rw [HDS]; rfl) (by show ∀ z ∈ D.toList, z.oneCell' = true; rw [ho.out.1]; simp [msC, SlV.v, Value.oneCell']) (fun wf KF hgf => ?_)
    have hb2 := below_of_grown ha hgf (by simp) (by omega)
    refine seg_move hM rfl (by omega) rfl (.inr rfl) rfl (fun a hM => ?_)
    exact seg_nil (hK _ _ ⟨D, u, wb.heap.size, hM.weak (by intro p hp; simp only [List.mem_cons, List.not_mem_nil, or_false] at hp; rcases hp with rfl | rfl | rfl | rfl <;> rfl), hide ((KA.out.later hb).later hb2), hide KF, ⟨ho.out.1, ho.out.2.1.below hb2, ho.out.2.2⟩, hide (below_then HBW hb2)⟩)
  obtain ⟨D, u, g4, hM, KA, KD, HD, HB⟩ := hS
  refine wpList_nil ?_
  simp only [Exit.then]
  refine hK3 _ _ ?_
  refine wp_seq_k fun K4 hK4 => ?_
  refine wp_region_lit ?_
  refine seg_cut9 (fun a' w2 => Frm a' 30 [(1, .pointer (some ⟨w.heap.size, 0, none⟩)), (4, .pointer (some ⟨g4, 0, none⟩)), (25, .bool true)] ∧ w2 = w') (fun K hK => ?_) (fun a' w2 hS => ?_)
  · refine seg_move hM rfl (by omega) rfl (.inl rfl) rfl (fun a hM => ?_)
    refine seg_call (v := .int .i64 0) (R := fun W => w' = W) hM rfl (by omega) rfl (f := 18) (args := #[.int .i64 0]) (by simp only [execOp, resolve, List.map_toArray, List.map_cons, List.map_nil, hM.ev (t := 17) (v := .int .i64 0) rfl]; simp [go_sem, Act.eval]) (law7_num 0 w') (fun a wd hM hR => ?_)
    subst hR
    refine seg_val hM rfl (by omega) rfl (v := .bool true) (w' := w') (by simp only [execOp, hM.ev (t := 18) (v := .int .i64 0) rfl]; simp [go_sem, Act.eval]) (fun a hM => ?_)
    refine seg_move hM rfl (by omega) rfl (.inl rfl) rfl (fun a hM => ?_)
    refine seg_same hM rfl (by omega) rfl rfl rfl (v := .int .i64 0) (by simp only [execOp, hM.ev (t := 5) (v := .int .i64 0) rfl]; simp) (fun a hM => ?_)
    refine seg_callg (v := .int .i64 0) (R := fun W => w' = W) hM rfl (by omega) rfl rfl rfl (f := 18) (args := #[.int .i64 0]) (by simp only [execOp, resolve, List.map_toArray, List.map_cons, List.map_nil, hM.ev (t := 21) (v := .int .i64 0) rfl]; simp [go_sem, Act.eval]) (law7_num 0 w') (fun a wd hM hR => ?_)
    subst hR
    refine seg_same hM rfl (by omega) rfl rfl rfl (v := .bool true) (by simp only [execOp, hM.ev (t := 22) (v := .int .i64 0) rfl]; simp [go_sem, Act.eval]) (fun a hM => ?_)
    refine seg_pick hM rfl (by omega) rfl rfl rfl rfl (fun a hM => ?_)
    refine seg_move hM rfl (by omega) rfl (.inl rfl) rfl (fun a hM => ?_)
    exact seg_nil (hK _ _ ⟨hM.weak (by intro p hp; simp only [List.mem_cons, List.not_mem_nil, or_false] at hp; rcases hp with rfl | rfl | rfl <;> rfl), rfl⟩)
  obtain ⟨hM, rfl⟩ := hS
  refine seg_cut5 (fun a' w3 => Frm a' 30 [(0, .bool true)] ∧ Below w.heap.size w w3) (fun K hK => ?_) (fun a' w3 hS => ?_)
  · have HDS : Hid (D.size = 18) := by rw [Hid, HD.out.1]; rfl
    refine seg_same hM rfl (by omega) rfl rfl rfl (v := .agg D) (run_load_blk rfl g4 (hM.ev (t := 4) rfl) 32 D _ KD.out Try.underlying32 rfl (by rw [HDS.out]; exact Try.infoMsg)) (fun a hM => ?_)
    refine seg_same hM rfl (by omega) rfl rfl rfl (v := .agg C) (run_load_blk rfl w.heap.size (hM.ev (t := 1) rfl) 32 C _ KA.out Try.underlying32 rfl (by rw [HCS.out]; exact Try.infoMsg)) (fun a hM => ?_)
    refine seg_callg hM rfl (by omega) rfl rfl rfl (f := 19) (args := #[.agg D, .agg C]) (by simp only [execOp, resolve, List.map_toArray, List.map_cons, List.map_nil, hM.ev (t := 26) (v := .agg D) rfl, hM.ev (t := 27) (v := .agg C) rfl]; simp [go_sem, Act.eval]) (ref0_EqMessage wkM wkM u zV _ (hide HD.out.2.1) (hide HD.out.2.2) (hide (zV_s _ _ ⟨rfl, rfl, rfl, rfl⟩)) (hide (zV_z _ ⟨rfl, rfl, rfl, rfl⟩)) (hide HD.out.1) HC (r := true) (by simp [Hid])) (fun a wd hM hbd => ?_)
    refine seg_pick hM rfl (by omega) rfl rfl rfl rfl (fun a hM => ?_)
    refine seg_move hM rfl (by omega) rfl (.inr rfl) rfl (fun a hM => ?_)
    exact seg_nil (hK _ _ ⟨hM.weak (by intro p hp; simp only [List.mem_cons, List.not_mem_nil, or_false] at hp; subst hp; rfl), below_then HB.out hbd⟩)
  obtain ⟨hM, hb⟩ := hS
  refine wpList_nil ?_
  simp only [Exit.then]
  refine hK4 _ _ ?_
  apply wp_ret
  refine bodyPost_ret (results_tmp rfl _ _ _) hM.2.1 ?_
  rw [show a'.tmps.getD 0 undef = .bool true from hM.ev (t := 0) rfl]
  exact ⟨rfl, hb⟩
end Go.Proofs.Ytmnogefpphonlaa
/-
  The argument of the laws of layer 7, opened: a list of records of a message, a number, bytes.
-/
namespace Go.Proofs.Ytmnogefpphonlaa
open Go.ChangeShapes Go.WideShapes Go.ChangeAt Go.RowKit Go.Deep
theorem sub_at {cs : List Value} {o C j : Nat} {u : Value} (hj : j < C) (h : ((cs.drop o).take C)[j]? = some u) : cs[o + j]? = some u := by
  rw [List.getElem?_take, if_pos hj, List.getElem?_drop] at h; exact h
def Asks7 (w : World) (A : Option Addr) (n : Nat) : Prop :=
  n ≤ 9223372036854775807 ∧ (0 < n → ∃ b off, A = some ⟨b, off, none⟩ ∧ ∀ k, k < n → ∃ (x : MsD) (v : MsV) (N : Int) (A4 : Option Addr) (n4 c4 : Nat) (bs : List UInt8),
    (∀ j z, (msC x v)[j]? = some z → w.cell? ⟨b, off + k * 20 + j, none⟩ = some z) ∧ w.cell? ⟨b, off + k * 20 + 18, none⟩ = some (.int .i64 N) ∧ w.cell? ⟨b, off + k * 20 + 19, none⟩ = some (.slice A4 n4 c4) ∧
    MsS w x v ∧ MsL x v ∧ Sl w 1 A4 n4 (bytes8 bs) ∧ n4 ≤ c4 ∧ c4 ≤ 9223372036854775807)
set_option maxRecDepth 100000 in
theorem open_batch_w {R : Nat} {H : Type} {enc : TypeId × Value → H} {w : World} {base : Nat} {spare : Nat → Bool} {held : Bool} {N : Nat} {cs : List Value} {y : DataW H × List MemPlace} (hl : cs.length = 3) (h : DataW.trod enc Try.prog w base spare held N 25 cs = some y) (hw : ∀ q ∈ y.1.weights Try.prog 25, q ≤ R) (hR : R ≤ 150000000000001) :
    ∃ a n A1 n1 c1 l, cs[0]? = some (.int .i64 a) ∧ cs[1]? = some (.int .i64 n) ∧ cs[2]? = some (.slice A1 n1 c1) ∧ Sl w 4 A1 n1 (txsC l) ∧ n1 ≤ 20000000000000 ∧ ∀ t ∈ l, t.k.size ≤ 150000000000001 ∧ t.v.size ≤ 150000000000001 := by
  obtain ⟨u0, hu0, e0⟩ := one_cell hl (show 0 < 3 by omega)
  obtain ⟨u1, hu1, e1⟩ := one_cell hl (show 1 < 3 by omega)
  obtain ⟨u2, hu2, e2⟩ := one_cell hl (show 2 < 3 by omega)
  obtain ⟨_, y0, t0, _⟩ := open_field (C := 1) (T := 3) (off := 0) Try.underlying25 h hw 0 rfl (by kernel_rfl)
  obtain ⟨_, y1, t1, _⟩ := open_field (C := 1) (T := 3) (off := 1) Try.underlying25 h hw 1 rfl (by kernel_rfl)
  obtain ⟨_, y2, t2, w2⟩ := open_field (C := 1) (T := 23) (off := 2) Try.underlying25 h hw 2 rfl (by kernel_rfl)
  rw [e0] at t0
  rw [e1] at t1
  rw [e2] at t2
  obtain ⟨z0, rfl, _⟩ := trod_int64 Try.underlying3 t0
  obtain ⟨z1, rfl, _⟩ := trod_int64 Try.underlying3 t1
  obtain ⟨A1, n1, c1, l, rfl, s1, _, _, m1, b1⟩ := open_txs_w t2 w2
  exact ⟨z0, z1, A1, n1, c1, l, hu0, hu1, hu2, s1, by omega, fun t ht => by have := b1 t ht; omega⟩
set_option maxRecDepth 100000 in
set_option maxHeartbeats 1000000 in
theorem open_msg_w {R : Nat} {H : Type} {enc : TypeId × Value → H} {w : World} {base : Nat} {spare : Nat → Bool} {held : Bool} {N : Nat} {cs : List Value} {y : DataW H × List MemPlace} (hl : cs.length = 18) (h : DataW.trod enc Try.prog w base spare held N 32 cs = some y) (hw : ∀ q ∈ y.1.weights Try.prog 32, q ≤ R) (hR : R ≤ 150000000000001) :
    ∃ (x : MsD) (v : MsV), cs = (msC x v).toList ∧ MsS w x v ∧ MsL x v := by
  obtain ⟨_, y0, t0, _⟩ := open_field (C := 1) (T := 3) (off := 0) Try.underlying32 h hw 0 rfl (by kernel_rfl)
  obtain ⟨_, y1, t1, _⟩ := open_field (C := 1) (T := 3) (off := 1) Try.underlying32 h hw 1 rfl (by kernel_rfl)
  obtain ⟨_, y2, t2, _⟩ := open_field (C := 1) (T := 3) (off := 2) Try.underlying32 h hw 2 rfl (by kernel_rfl)
  obtain ⟨_, y3, t3, _⟩ := open_field (C := 1) (T := 3) (off := 3) Try.underlying32 h hw 3 rfl (by kernel_rfl)
  obtain ⟨_, yb, tb, wb⟩ := open_field (C := 3) (T := 25) (off := 4) Try.underlying32 h hw 4 rfl (by kernel_rfl)
  obtain ⟨_, yh, th, wh⟩ := open_field (C := 4) (T := 28) (off := 7) Try.underlying32 h hw 5 rfl (by kernel_rfl)
  obtain ⟨_, yc, tc, wc⟩ := open_field (C := 6) (T := 30) (off := 11) Try.underlying32 h hw 6 rfl (by kernel_rfl)
  obtain ⟨_, yd, td, wd⟩ := open_field (C := 1) (T := 26) (off := 17) Try.underlying32 h hw 7 rfl (by kernel_rfl)
  obtain ⟨u0, hu0, e0⟩ := one_cell hl (show 0 < 18 by omega)
  obtain ⟨u1, hu1, e1⟩ := one_cell hl (show 1 < 18 by omega)
  obtain ⟨u2, hu2, e2⟩ := one_cell hl (show 2 < 18 by omega)
  obtain ⟨u3, hu3, e3⟩ := one_cell hl (show 3 < 18 by omega)
  obtain ⟨u17, hu17, e17⟩ := one_cell hl (show 17 < 18 by omega)
  rw [e0] at t0
  obtain ⟨z0, rfl, _⟩ := trod_int64 Try.underlying3 t0
  rw [e1] at t1
  obtain ⟨z1, rfl, _⟩ := trod_int64 Try.underlying3 t1
  rw [e2] at t2
  obtain ⟨z2, rfl, _⟩ := trod_int64 Try.underlying3 t2
  rw [e3] at t3
  obtain ⟨z3, rfl, _⟩ := trod_int64 Try.underlying3 t3
  rw [e17] at td
  obtain ⟨A7, n7, c7, ds, rfl, s7, m7, _, _⟩ := open_ints8_w td wd
  obtain ⟨ba, bn, A1, n1, c1, l, b0, b1, b2, s1, m1, mz⟩ := open_batch_w (by simp [hl]) tb wb hR
  obtain ⟨ha, hr, A2, n2, c2, xs, A3, n3, c3, ps, h0, h1, h2, h3, ⟨s2, m2⟩, ⟨s3, m3⟩⟩ := open_hdr_w (by simp [hl]) th wh
  obtain ⟨ca, cr, A4, n4, c4, xs2, A5, n5, c5, ps2, cd, A6, n6, c6, ss, k0, k1, k2, k3, k4, k5, ⟨s4, m4⟩, ⟨s5, m5⟩, ⟨s6, m6⟩⟩ := open_cert_w (by simp [hl]) tc wc
  refine ⟨⟨z0, z1, z2, z3, ⟨ba, bn, l⟩, ⟨ha, hr, xs, ps⟩, ⟨⟨ca, cr, xs2, ps2⟩, cd, ss⟩, ds⟩, ⟨⟨A1, n1, c1⟩, ⟨A2, n2, c2⟩, ⟨A3, n3, c3⟩, ⟨A4, n4, c4⟩, ⟨A5, n5, c5⟩, ⟨A6, n6, c6⟩, ⟨A7, n7, c7⟩⟩, ?_, ⟨s1, s2, s3, s4, s5, s6, s7⟩, ⟨mz, m1, by show n2 ≤ _; omega, by show n3 ≤ _; omega, by show n4 ≤ _; omega, by show n5 ≤ _; omega, by show n6 ≤ _; omega, by show n7 ≤ _; omega⟩⟩
  refine List.ext_getElem? fun j => ?_
  by_cases hj : j < 18
  · match j, hj with
    | 0, _ => exact hu0
    | 1, _ => exact hu1
    | 2, _ => exact hu2
    | 3, _ => exact hu3
    | 4, _ => exact sub_at (o := 4) (by omega) b0
    | 5, _ => exact sub_at (o := 4) (by omega) b1
    | 6, _ => exact sub_at (o := 4) (by omega) b2
    | 7, _ => exact sub_at (o := 7) (by omega) h0
    | 8, _ => exact sub_at (o := 7) (by omega) h1
    | 9, _ => exact sub_at (o := 7) (by omega) h2
    | 10, _ => exact sub_at (o := 7) (by omega) h3
    | 11, _ => exact sub_at (o := 11) (by omega) k0
    | 12, _ => exact sub_at (o := 11) (by omega) k1
    | 13, _ => exact sub_at (o := 11) (by omega) k2
    | 14, _ => exact sub_at (o := 11) (by omega) k3
    | 15, _ => exact sub_at (o := 11) (by omega) k4
    | 16, _ => exact sub_at (o := 11) (by omega) k5
    | 17, _ => exact hu17
    | j + 18, hj => exact absurd hj (by omega)
  · rw [List.getElem?_eq_none (by omega), List.getElem?_eq_none (by show 18 ≤ j; omega)]
set_option maxRecDepth 100000 in
theorem open_asks7 {R : Nat} {H : Type} {enc : TypeId × Value → H} {W : World} {b0 : Nat} {v : Value} {d : DataW H} {p : List MemPlace}
    (hv : Value.okWide Try.prog W .any b0 22 v) (h : DataW.Trod enc Try.prog W 0 (fun _ => true) true 22 v d p) (hw : ∀ q ∈ d.weights Try.prog 22, q ≤ R) (hR : R ≤ 150000000000001) :
    ∃ A n c, v = .slice A n c ∧ Asks7 W A n := by
  obtain ⟨A, n, c, hA, h1, h2, h3, hrow⟩ := open_top (C := 20) Try.underlying22 (by kernel_rfl) (by omega) hv h hw
  refine ⟨A, n, c, hA, by omega, fun h0 => ?_⟩
  obtain ⟨b, off, rfl, hb, hk⟩ := hrow h0
  refine ⟨b, off, rfl, fun k hkn => ?_⟩
  obtain ⟨cs, N, y, hl, hc, hy, hq⟩ := hk k hkn
  obtain ⟨_, yb, tb, wb⟩ := open_field (C := 18) (T := 32) (off := 0) Try.underlying35 hy hq 0 rfl (by kernel_rfl)
  obtain ⟨_, y6, t6, w6⟩ := open_field (C := 1) (T := 3) (off := 18) Try.underlying35 hy hq 1 rfl (by kernel_rfl)
  obtain ⟨_, y7, t7, w7⟩ := open_field (C := 1) (T := 33) (off := 19) Try.underlying35 hy hq 2 rfl (by kernel_rfl)
  obtain ⟨x, u, he, hs, hL⟩ := open_msg_w (by simp [hl]) tb wb hR
  obtain ⟨u6, hu6, e6⟩ := one_cell hl (show 18 < 20 by omega)
  obtain ⟨u7, hu7, e7⟩ := one_cell hl (show 19 < 20 by omega)
  rw [e6] at t6
  rw [e7] at t7
  obtain ⟨z6, rfl, _⟩ := trod_int64 Try.underlying3 t6
  obtain ⟨A4, n4, c4, bs, rfl, s4, p3, p4, m4⟩ := open_bytes_w Try.underlying33 Try.underlying5 (by kernel_rfl) t7 w7
  refine ⟨x, u, z6, A4, n4, c4, bs, fun j z hz => ?_, (hc 18 (by omega)).trans hu6, (hc 19 (by omega)).trans hu7, hs, hL, s4, p3, p4⟩
  have hj : j < 18 := by
    have hz2 : j < (msC x u).size := by
      rcases Nat.lt_or_ge j (msC x u).size with h | h
      · exact h
      · rw [Array.getElem?_eq_none h] at hz; cases hz
    exact hz2
  refine (hc j (by omega)).trans ?_
  have := sub_at (cs := cs) (o := 0) (C := 18) (u := z) hj (by rw [he]; simpa using hz)
  simpa using this
end Go.Proofs.Ytmnogefpphonlaa
/-
  The shape that the laws over a list have (a counted loop over its first records, then a last call), walked once for all, over frames known by facts. Over any program.
-/
namespace Go.Proofs.Ytmnogefpphonlaa
open Go.RowKit

section
variable {P : Program}
theorem seg_cut1 {ops : Array Oper} {Q : Exit → Act → World → Prop} {a : Act} {w : World} {rest : List Oper} {o1 : Oper} (S : Act → World → Prop)
    (h1 : ∀ K : Act → World → Prop, (∀ a' w', S a' w' → K a' w') → wpSeg P ops Q K [o1] a w) (h2 : ∀ a' w', S a' w' → wpList P ops Q rest a' w') : wpList P ops Q (o1 :: rest) a w := seg_cut 1 S h1 h2
theorem law_shape {NS t si sr n : Nat} {M0 : List (Nat × Value)} {R0 R1 R2 R3 R4 B : Code} {a : Act} {w : World} {Q : Exit → Act → World → Prop} (hM : Frm a NS M0)
    (h0 : ∀ a w Q, Frm a NS M0 → (∀ a', Frm a' NS M0 → Q .normal a' w) → R0.wp P Q a w)
    (h1 : ∀ a w Q, Frm a NS M0 → (∀ a', Frm a' NS ((si, .int .i64 0) :: M0) → Q .normal a' w) → R1.wp P Q a w)
    (h2 : ∀ (k : Nat) a w Q, Frm a NS ((si, .int .i64 k) :: M0) → (∀ a', Frm a' NS ((si, .int .i64 k) :: M0) → a'.eval (.tmp t) = .bool (decide (k < n) && decide (k < 8)) → Q .normal a' w) → R2.wp P Q a w)
    (h3 : ∀ (k : Nat) a w Q, k < 8 → Frm a NS ((si, .int .i64 k) :: M0) → (∀ a', Frm a' NS ((si, .int .i64 ((k + 1 : Nat) : Int)) :: M0) → Q .normal a' w) → R3.wp P Q a w)
    (hb : ∀ (k : Nat) a w' Q, k < n → k < 8 → Frm a NS ((si, .int .i64 k) :: M0) → Hid (Below w.heap.size w w') → (∀ a' w'', Frm a' NS ((si, .int .i64 k) :: M0) → Hid (Below w.heap.size w w'') → Q .normal a' w'') →
      (∀ a' w'', Frm a' NS ((si, .int .i64 k) :: M0) → Hid (Below w.heap.size w w'') → Q (.exit 1) a' w'') → (∀ a' w'', Frm a' NS [(sr, .bool true)] → Hid (Below w.heap.size w w'') → Q .ret a' w'') → B.wp P Q a w')
    (h4 : ∀ a w' Q, Frm a NS M0 → Hid (Below w.heap.size w w') → (∀ a' w'', Frm a' NS [(sr, .bool true)] → Hid (Below w.heap.size w w'') → Q .normal a' w'') → R4.wp P Q a w')
    (hQ : ∀ a' w', Frm a' NS [(sr, .bool true)] → Hid (Below w.heap.size w w') → Q .ret a' w') (hsi : lk M0 si = none) :
    (Code.seq R0 (Code.seq (Code.seq R1 (Code.block 0 (Code.loop (Code.seq (Code.seq R2 (Code.cond (.tmp t) .skip (.exit 0))) (Code.seq (Code.block 1 B) R3))))) (Code.seq R4 Code.ret))).wp P Q a w := by
  have hdrop : ∀ {a : Act} {v : Value}, Frm a NS ((si, v) :: M0) → Frm a NS M0 := by
    intro a v h
    refine ⟨h.1, h.2.1, fun t u hl => h.2.2 t u ?_⟩
    unfold lk
    cases hk : Nat.beq si t with
    | true =>
      have : si = t := Nat.eq_of_beq_eq_true hk
      subst this
      rw [hsi] at hl; cases hl
    | false => exact hl
  refine wp_seq (h0 _ _ _ hM fun a0 hM => ?_)
  show (Code.seq _ _).wp P Q a0 w
  refine wp_seq ?_
  refine wp_seq (h1 _ _ _ hM fun a1 hM => ?_)
  show (Code.block 0 _).wp P _ a1 w
  refine wp_block ?_
  refine wp_loop_ghost (fun m a w' => ∃ k : Nat, k ≤ n ∧ m = n - k ∧ Frm a NS ((si, .int .i64 k) :: M0) ∧ Hid (Below w.heap.size w w')) n ⟨0, by omega, by omega, hM, Below.refl _ _⟩ ?_
  rintro m a2 w2 ⟨k, hk, rfl, hM, HB⟩
  refine wp_seq ?_
  refine wp_seq (h2 k _ _ _ hM fun a3 hM ht => ?_)
  show (Code.cond _ _ _).wp P _ a3 w2
  refine wp_cond ht ?_
  by_cases hlt : k < n
  · by_cases hm : k < 8
    · rw [decide_eq_true hlt, decide_eq_true hm]
      refine wp_skip ?_
      show (Code.seq _ _).wp P _ a3 w2
      refine wp_seq ?_
      refine wp_block ?_
      have key : ∀ a' w'', Frm a' NS ((si, .int .i64 k) :: M0) → Hid (Below w.heap.size w w'') → R3.wp P (Exit.then (fun a' w' => ∃ n', n' < n - k ∧ ∃ k : Nat, k ≤ n ∧ n' = n - k ∧ Frm a' NS ((si, .int .i64 k) :: M0) ∧ Hid (Below w.heap.size w w')) (Exit.inBlock 0 (Exit.then (fun a w => (Code.seq R4 Code.ret).wp P Q a w) Q))) a' w'' := by
        intro a' w'' hM' HB'
        exact h3 k _ _ _ hm hM' fun a'' hM'' => ⟨n - (k + 1), by omega, k + 1, by omega, rfl, hM'', HB'⟩
      exact hb k _ _ _ hlt hm hM HB (fun a' w'' hM' HB' => key a' w'' hM' HB') (fun a' w'' hM' HB' => by simp only [Exit.inBlock, if_true]; exact key a' w'' hM' HB') (fun a' w'' hM' HB' => hQ a' w'' hM' HB')
    · rw [decide_eq_false hm, Bool.and_false]
      refine wp_exit ?_
      show (Code.seq R4 Code.ret).wp P Q a3 w2
      refine wp_seq (h4 _ _ _ (hdrop hM) HB fun a4 w4 hM4 HB4 => ?_)
      exact wp_ret (hQ _ _ hM4 HB4)
  · rw [decide_eq_false hlt, Bool.false_and]
    refine wp_exit ?_
    show (Code.seq R4 Code.ret).wp P Q a3 w2
    refine wp_seq (h4 _ _ _ (hdrop hM) HB fun a4 w4 hM4 HB4 => ?_)
    exact wp_ret (hQ _ _ hM4 HB4)
end
end Go.Proofs.Ytmnogefpphonlaa
