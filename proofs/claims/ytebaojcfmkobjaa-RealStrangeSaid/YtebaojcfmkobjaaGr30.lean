/-
  Texts joined: words and contracts that later texts use; lemmas alone, no conditions of a statement.
-/
import Derived.Test.YtebaojcfmkobjaaGr22
import Derived.Lib.SlBytesConst
import Derived.Test.YtebaojcfmkobjaaRealF
import Derived.Test.YtebaojcfmkobjaaGr26
set_option linter.unusedVariables false
set_option linter.unusedSimpArgs false
/-
  More words for walks over frames known by facts: slices and records built of any operands, constant bytes. Over any program.
-/
namespace Go.Proofs.Ytebaojcfmkobjaa
open Go.RowKit

def bsv (M : List (Nat × Value)) : List (Nat × Operand) → Option (List (Nat × Value))
  | [] => some []
  | p :: r => match opv M p.2, bsv M r with
    | some v, some vs => some ((p.1, v) :: vs)
    | _, _ => none
section
variable {P : Program} {a : Act} {n : Nat} {M : List (Nat × Value)} {ops : Array Oper} {o : Oper} {w w' : World} {v : Value} {Q : Exit → Act → World → Prop} {K : Act → World → Prop} {rest : List Oper}
theorem Frm.bsv (hM : Frm a n M) : ∀ {xs : List (Nat × Operand)} {vs : List (Nat × Value)}, bsv M xs = some vs → xs.map (fun p => (p.1, a.eval p.2)) = vs
  | [], vs, hl => by simpa [Proofs.Ytebaojcfmkobjaa.bsv] using hl
  | p :: r, vs, hl => by
    unfold Proofs.Ytebaojcfmkobjaa.bsv at hl
    split at hl
    · rename_i v us h1 h2
      injection hl with hl
      subst hl
      simp [hM.evo h1, Frm.bsv hM h2]
    · cases hl
theorem ev_bsg {t e : TypeId} {k : Nat} {xs : List (Nat × Operand)} {vs : List (Nat × Value)} {C : Array Value} (hM : Frm a n M) (ho : o.op = .buildSlice t k xs.toArray) (hx : bsv M xs = some vs) (hr : ∀ w, (Instr.buildSlice t k vs.toArray).run P w = .ok (.slice (some ⟨w.heap.size, 0, none⟩) k k) (w.alloc (.cells C e))) :
    (execOp a.eval o).run P w = .ok (.value ((fun g => Value.slice (some ⟨g, 0, none⟩) k k) w.heap.size)) (w.alloc (.cells C e)) := by
  have e2 : xs.toArray.map (fun (i, x) => (i, a.eval x)) = vs.toArray := by rw [← hM.bsv hx]; simp
  simp only [execOp, ho, e2]
  simp [Sem.run_bind, hr]
theorem ev_buildg {t : TypeId} {xs : List (Nat × Operand)} {vs : List (Nat × Value)} (ho : o.op = .build t xs.toArray) (hx : bsv M xs = some vs) (hr : ∀ w, (Instr.build t vs.toArray).run P w = .ok v w) : Ev P M o w v := fun a n hM => by
  have e2 : xs.toArray.map (fun (i, x) => (i, a.eval x)) = vs.toArray := by rw [← hM.bsv hx]; simp
  simp only [execOp, ho, e2]
  simp [Sem.run_bind, hr]
theorem Sl.marked (w : World) (t : TypeId) (C : Array Value) (fr : Nat × Nat) : Sl (w.alloc (.cells C t fr)) 1 (some ⟨w.heap.size, 0, none⟩) C.size C.toList := by
  refine ⟨by simp, fun _ => ⟨w.heap.size, 0, rfl, by simp, fun j v hv => ?_⟩⟩
  have h := heap_alloc_new w (.cells C t fr)
  rw [Nat.zero_add]
  refine (cell_of_row _ w.heap.size j _ _ _ h).trans ?_
  simpa using hv
/-- Constant bytes: a row and its mark. -/
theorem s_cbytes {o2 : Oper} {d1 d2 k : Nat} {t e : TypeId} {xs : List (Nat × Operand)} {vs : List (Nat × Value)} {C : Array Value} (hM : Frm a n M) (hg1 : o.guard = none) (hd1 : o.dst = some d1) (hn1 : Nat.blt d1 n = true) (ho : o.op = .buildSlice t k xs.toArray) (hx : bsv M xs = some vs)
    (hr : ∀ w, (Instr.buildSlice t k vs.toArray).run P w = .ok (.slice (some ⟨w.heap.size, 0, none⟩) k k) (w.alloc (.cells C e))) (hg2 : o2.guard = none) (hd2 : o2.dst = some d2) (hn2 : Nat.blt d2 n = true) (ho2 : o2.op = .convert t t (.tmp d1)) (ht : P.underlying t = some (.slice e)) (he : P.underlying e = some (.int .u8)) (hk : C.size = k)
    (h : ∀ g a' w', Frm a' n ((d2, .slice (some ⟨g, 0, none⟩) k k) :: (d1, .slice (some ⟨g, 0, none⟩) k k) :: M) → Sl w' 1 (some ⟨g, 0, none⟩) k C.toList → Below w.heap.size w w' → w.heap.size ≤ g → wpSeg P ops Q K rest a' w') : wpSeg P ops Q K (o :: o2 :: rest) a w := by
  unfold wpSeg
  rw [if_pos (by simp [Region.wanted, hg1])]
  refine .inl ?_
  unfold Oper.wp
  rw [ev_bsg hM ho hx hr, Oper.upon_value, hd1]
  have hM2 := hM.put (Nat.le_of_ble_eq_true hn1) (.slice (some ⟨w.heap.size, 0, none⟩) k k)
  unfold wpSeg
  rw [if_pos (by simp [Region.wanted, hg2])]
  refine .inl ?_
  unfold Oper.wp
  have hr2 : (execOp (a.put (some d1) (.slice (some ⟨w.heap.size, 0, none⟩) k k)).eval o2).run P (w.alloc (.cells C e)) = .ok (.value (.slice (some ⟨w.heap.size, 0, none⟩) k k)) (w.alloc (.cells C e (C.size, C.size + 1))) := by
    simp only [execOp, ho2, hM2.evo (x := .tmp d1) (v := .slice (some ⟨w.heap.size, 0, none⟩) k k) (by simp [opv, lk])]
    simp [Sem.run_bind, Lib.run_convert_bytes_const w t e C k k ht he]
  rw [hr2, Oper.upon_value, hd2]
  have hs := Sl.marked w e C (C.size, C.size + 1)
  rw [hk] at hs ⊢
  exact h _ _ _ (hM2.put (Nat.le_of_ble_eq_true hn2) _) hs (below_alloc_ w _) (Nat.le_refl _)
/-- A block whose ways out come together. -/
def joinQ (J : Act → World → Prop) (Q : Exit → Act → World → Prop) : Exit → Act → World → Prop
  | .normal, a, w => J a w
  | e, a, w => Q e a w
theorem wp_join {c : Code} (J : Act → World → Prop) (h1 : c.wp P (joinQ J Q) a w) (h2 : ∀ a w, J a w → Q .normal a w) : c.wp P Q a w :=
  wp_mono h1 fun e a' w' h => by
    cases e with
    | normal => exact h2 _ _ h
    | _ => exact h
theorem jq_n {J : Act → World → Prop} (h : J a w) : joinQ J Q .normal a w := h
theorem jq_r {J : Act → World → Prop} (h : Q .ret a w) : joinQ J Q .ret a w := h
end
end Go.Proofs.Ytebaojcfmkobjaa
/-
  The statements of layer 8: wakes.
-/
namespace Go.Proofs.Ytebaojcfmkobjaa
open Go.RowKit

def BkK (w0 : World) (G : Nat → Prop) (w : World) (g : Nat) (L : List (List UInt8)) (sg : Int × Int → Bool) : Prop := BkW w0 G w g L sg
theorem BkK.bw {w0 w : World} {G : Nat → Prop} {g : Nat} {L : List (List UInt8)} {sg : Int × Int → Bool} (h : BkK w0 G w g L sg) : BkW w0 G w g L sg := h
theorem BkK.below {w0 w w' : World} {G : Nat → Prop} {g : Nat} {L : List (List UInt8)} {sg : Int × Int → Bool} (h : BkK w0 G w g L sg) (hb : Below w.heap.size w w') : BkK w0 G w' g L sg := BkW.step h hb
theorem BkK.sign {w0 w w' : World} {G : Nat → Prop} {g : Nat} {L : List (List UInt8)} {sg sg' : Int × Int → Bool} (h : BkK w0 G w g L sg) (h1 : BkI G w' g L sg') (h2 : Chg G w w') : BkK w0 G w' g L sg' := ⟨h1, h.bw.lo, h.bw.below.trans (h2.to_below h.bw.lo h.bw.below.size)⟩
theorem sl_nil {w : World} : Sl w 1 none 0 (ints []) := ⟨rfl, fun h => absurd h (by omega)⟩
def wk8 : MsD := ⟨5, 1, 2, 1, zB, zH, zC, []⟩
theorem wk8_s (w : World) : MsS w wk8 zV := zV_s w wk8 ⟨rfl, rfl, rfl, rfl⟩
theorem wk8_z : MsZ wk8 zV := zV_z wk8 ⟨rfl, rfl, rfl, rfl⟩
theorem wk8_1 : chkE [[120]] (fun _ => false) [] 4 wk8 = 7 := by decide
theorem wk8_2 : chkE [[120]] (sgUp 0 (fun _ => false) (1, 1)) [] 4 wk8 = 0 := by decide

set_option maxRecDepth 100000 in
set_option maxHeartbeats 4000000 in
theorem law8_wakes (w : World) : Calls Try.prog 28 #[] w fun e w' => e = .returned (.bool true) ∧ Below w.heap.size w w' := by
  obtain ⟨C, HC⟩ : ∃ C : Array Value, Hid (C = msC wk8 zV) := ⟨_, rfl⟩

  go_enter Try.func28, Try.ntmps28
  refine act_off 45 [] (Frm.start rfl (by intro p hp; simp at hp)) (fun a0 hM => ?_)
  have HB2 : Hid (Below w.heap.size w w) := Below.refl _ _
  refine region_then fun K3 QK3 hK3 => ?_
  refine s_val hM (.inl rfl) rfl rfl (ev_move (.inr rfl) rfl) (fun a5 hM4 => ?_)
  clear hM
  refine seg_nil (hK3 _ _ ?_)
  clear hK3 K3 QK3
  have hM6 := hM4.cut0 
  clear hM4
  refine region_then fun K7 QK7 hK7 => ?_
  refine s_call hM6 (.inl rfl) rfl rfl (f := 16) (args := #[]) (ev_call hM6 rfl rfl rfl (fun w => by simp [go_sem]) _) (book_New _) (fun e w8 hp => ?_)
  obtain ⟨g, G, rfl, hB, hlo, hb9⟩ := hp
  have HBW := hide (show BkK w G w8 g [] (fun _ => false) from ⟨hB, hlo, hb9⟩)
  clear hB hlo
  refine ⟨_, rfl, fun a11 hM10 => ?_⟩
  clear hM6
  have HB12 := hide (below_then HB2.out hb9)
  clear hb9 HB2
  have HB14 : Hid (Below w8.heap.size w8 w8) := Below.refl _ _
  refine s_val hM10 (.inl rfl) rfl rfl (ev_move (.inr rfl) rfl) (fun a16 hM15 => ?_)
  clear hM10
  refine seg_nil (hK7 _ _ ?_)
  clear hK7 K7 QK7
  have hM17 := hM15.cut1 (t1 := 1) rfl
  clear hM15
  refine wp_seq_k fun K18 hK18 => ?_
  refine region_then fun K19 QK19 hK19 => ?_
  refine s_val hM17 (.inl rfl) rfl rfl (ev_move (.inl rfl) rfl) (fun a21 hM20 => ?_)
  clear hM17
  refine s_val hM20 (.inl rfl) rfl rfl (ev_ptrnil rfl rfl (u_ptr (by kernel_rfl)) g_ptr) (fun a23 hM22 => ?_)
  clear hM20
  refine seg_nil (hK19 _ _ ?_)
  clear hK19 K19 QK19
  have hM24 := hM22.cut2 (t1 := 1) (t2 := 9) rfl rfl
  clear hM22
  refine wp_cond_false (hM24.ev (t := 9) rfl) ?_
  refine wp_skip ?_
  refine hK18 _ _ ?_
  refine region_then fun K25 QK25 hK25 => ?_
  refine s_val hM24 (.inl rfl) rfl rfl (ev_move (.inl rfl) rfl) (fun a27 hM26 => ?_)
  clear hM24
  refine s_cbytes (k := 1) (C := #[.int .u8 120]) hM26 rfl rfl rfl rfl rfl (fun w => by kernel_rfl) rfl rfl rfl rfl Try.underlying60 Try.underlying5 rfl (fun g28 a33 w29 hM32 HCB34_ hb30 hg31 => ?_)
  have HCB34 := hide HCB34_
  clear HCB34_ hM26
  have lo35 := hide (Nat.le_trans HB12.out.size hg31)
  have lo36 := hide (Nat.le_trans HB14.out.size hg31)
  clear hg31
  have HB37 := hide (below_then HB12.out hb30)
  have HB38 := hide (below_then HB14.out hb30)
  clear hb30 HB12 HB14
  have HB40 : Hid (Below w29.heap.size w29 w29) := Below.refl _ _
  refine s_call hM32 (.inl rfl) rfl rfl (f := 30) (args := #[.pointer (some ⟨g, 0, none⟩), .slice ((some ⟨g28, 0, none⟩)) 1 1]) (ev_call hM32 rfl rfl rfl (fun w => by simp [go_sem]) _) (book_Digest (x := [120]) (n := 1) _ ((HBW.out.below HB38.out)).bw.bk (show Sl _ 1 _ 1 (bytes8 [120]) from (HCB34.out.below HB40.out)) (by show 1 ≤ 1048576; omega) (by show 0 ≤ 65535; omega) (hide (fun _ b off e h => by injection e with e; injection e with e1 _; have h1 := HBW.out.bw.bk.lt b h; have h2 := lo36.out; omega)) (d := 1) rfl (L' := [[120]]) rfl) (fun e w41 hp => ?_)
  obtain ⟨rfl, hn⟩ := hp
  obtain ⟨G2, hB2, -⟩ := ((HBW.out.below HB38.out)).bw.next hn
  have HBW_ := hide (show BkK w G2 w41 g [[120]] (fun _ => false) from hB2)
  clear HB37 HB38 HB40 HBW hn hB2
  have HBW := HBW_
  clear HBW_
  have HB46 : Hid (Below w41.heap.size w41 w41) := Below.refl _ _
  clear HCB34
  refine ⟨_, rfl, fun a44 hM43 => ?_⟩
  clear hM32
  refine s_val hM43 (.inl rfl) rfl rfl (ev_move (.inl rfl) rfl) (fun a48 hM47 => ?_)
  clear hM43
  refine s_val hM47 (.inl rfl) rfl rfl (ev_ext (v := .int .i64 1) rfl rfl rfl) (fun a50 hM49 => ?_)
  clear hM47
  refine s_val hM49 (.inl rfl) rfl rfl (ev_ext (v := .int .i64 0) rfl rfl rfl) (fun a52 hM51 => ?_)
  clear hM49
  refine s_val hM51 (.inl rfl) rfl rfl (ev_move (.inr rfl) rfl) (fun a54 hM53 => ?_)
  clear hM51
  refine s_val hM53 (.inl rfl) rfl rfl (ev_move (.inr rfl) rfl) (fun a56 hM55 => ?_)
  clear hM53
  refine seg_nil (hK25 _ _ ?_)
  clear hK25 K25 QK25
  have hM57 := hM55.cut3 (t1 := 1) (t2 := 2) (t3 := 3) rfl rfl rfl
  clear hM55
  refine region_then fun K58 QK58 hK58 => ?_
  refine s_val hM57 (.inl rfl) rfl rfl (ev_move (.inl rfl) rfl) (fun a60 hM59 => ?_)
  clear hM57
  refine s_val hM59 (.inl rfl) rfl rfl (ev_buildg (v := .agg C) rfl rfl (fun w => by rw [HC.out]; kernel_rfl)) (fun a62 hM61 => ?_)
  clear hM59
  refine s_new hM61 rfl rfl rfl rfl alloc_msg rfl rfl rfl rfl (by rw [HC.out]; exact Try.infoMsg) (by rw [HC.out]; rfl) (one_msg HC.out) (fun g63 a69 w64 hM68 KB67_ hb65 hg66 => ?_)
  have KB67 := hide KB67_
  clear hM61 KB67_
  have lo70 := hide (Nat.le_trans HB46.out.size hg66)
  clear hg66
  have HB71 := hide (below_then HB46.out hb65)
  clear hb65 HB46
  have HB73 : Hid (Below w64.heap.size w64 w64) := Below.refl _ _
  have HNG : Hid (¬ G2 g63) := fun h => by have h1 := HBW.out.bw.bk.lt _ h; have h2 := lo70.out; omega
  refine seg_nil (hK58 _ _ ?_)
  clear hK58 K58 QK58
  have hM74 := hM68.cut4 (t1 := 1) (t2 := 2) (t3 := 3) (t4 := 4) rfl rfl rfl rfl
  clear hM68
  refine region_then fun K75 QK75 hK75 => ?_
  refine s_val hM74 (.inl rfl) rfl rfl (ev_move (.inl rfl) rfl) (fun a77 hM76 => ?_)
  clear hM74
  refine s_val hM76 (.inl rfl) rfl rfl (ev_loadm rfl rfl (KB67.out.on HB73.out).rng Try.underlying42 rfl (by rw [HC.out]; exact Try.infoMsg)) (fun a79 hM78 => ?_)
  clear hM76
  refine s_call hM78 (.inl rfl) rfl rfl (f := 23) (args := #[.pointer (some ⟨g, 0, none⟩), .int .i64 4, .slice none 0 0, .agg C]) (ev_call hM78 rfl rfl rfl (fun w => by simp [go_sem]) _) (real_Check 4 wk8 zV _ (hide ((HBW.out.below HB71.out)).bw.bk) (hide sl_nil) (by omega) (hide (wk8_s _)) (hide wk8_z) HC (r := 7) wk8_1) (fun e w80 hp => ?_)
  obtain ⟨rfl, hb81⟩ := hp
  refine ⟨_, rfl, fun a83 hM82 => ?_⟩
  clear hM78
  have HB84 := hide (below_then HB71.out hb81)
  have HB85 := hide (below_then HB73.out hb81)
  clear hb81 HB71 HB73
  refine s_call hM82 (.inl rfl) rfl rfl (f := 19) (args := #[.int .i64 7]) (ev_call hM82 rfl rfl rfl (fun w => by simp [go_sem]) _) (law8_num _ _) (fun e w86 hp => ?_)
  obtain ⟨rfl, rfl⟩ := hp
  refine ⟨_, rfl, fun a89 hM88 => ?_⟩
  clear hM82
  refine s_val hM88 (.inl rfl) rfl rfl (ev_move (.inr rfl) rfl) (fun a91 hM90 => ?_)
  clear hM88
  refine seg_nil (hK75 _ _ ?_)
  clear hK75 K75 QK75
  have hM92 := hM90.cut5 (t1 := 1) (t2 := 2) (t3 := 3) (t4 := 4) (t5 := 5) rfl rfl rfl rfl rfl
  clear hM90
  refine region_then fun K93 QK93 hK93 => ?_
  refine s_val hM92 (.inl rfl) rfl rfl (ev_move (.inl rfl) rfl) (fun a95 hM94 => ?_)
  clear hM92
  refine s_val hM94 (.inl rfl) rfl rfl (ev_move (.inl rfl) rfl) (fun a97 hM96 => ?_)
  clear hM94
  refine s_call hM96 (.inl rfl) rfl rfl (f := 20) (args := #[.pointer (some ⟨g, 0, none⟩), .int .i64 1, .int .i64 1]) (ev_call hM96 rfl rfl rfl (fun w => by simp [go_sem]) _) (book_Sign 1 1 _ ((HBW.out.below HB84.out)).bw.bk (r := 0) rfl) (fun e w98 hp => ?_)
  obtain ⟨rfl, h1, h2⟩ := hp
  have HBW_ := hide (((HBW.out.below HB84.out)).sign h1 h2)
  have KB102 := hide (((KB67.out.on HB85.out)).chg h2 HNG.out)
  clear HB84 HB85 KB67 HBW h1 h2
  have HBW := HBW_
  clear HBW_
  have HB104 : Hid (Below w98.heap.size w98 w98) := Below.refl _ _
  refine ⟨_, rfl, fun a101 hM100 => ?_⟩
  clear hM96
  refine s_call hM100 (.inl rfl) rfl rfl (f := 19) (args := #[.int .i64 0]) (ev_call hM100 rfl rfl rfl (fun w => by simp [go_sem]) _) (law8_num _ _) (fun e w105 hp => ?_)
  obtain ⟨rfl, rfl⟩ := hp
  refine ⟨_, rfl, fun a108 hM107 => ?_⟩
  clear hM100
  refine s_val hM107 (.inl rfl) rfl rfl (ev_move (.inr rfl) rfl) (fun a110 hM109 => ?_)
  clear hM107
  refine seg_nil (hK93 _ _ ?_)
  clear hK93 K93 QK93
  have hM111 := hM109.cut6 (t1 := 1) (t2 := 2) (t3 := 3) (t4 := 4) (t5 := 5) (t6 := 6) rfl rfl rfl rfl rfl rfl
  clear hM109
  refine region_then fun K112 QK112 hK112 => ?_
  refine s_val hM111 (.inl rfl) rfl rfl (ev_move (.inl rfl) rfl) (fun a114 hM113 => ?_)
  clear hM111
  refine s_call hM113 (.inl rfl) rfl rfl (f := 19) (args := #[.int .i64 0]) (ev_call hM113 rfl rfl rfl (fun w => by simp [go_sem]) _) (law8_num _ _) (fun e w115 hp => ?_)
  obtain ⟨rfl, rfl⟩ := hp
  refine ⟨_, rfl, fun a118 hM117 => ?_⟩
  clear hM113
  refine s_val hM117 (.inl rfl) rfl rfl (ev_bin rfl rfl rfl g_int (b_eql (b := true) (by decide))) (fun a120 hM119 => ?_)
  clear hM117
  refine s_val hM119 (.inl rfl) rfl rfl (ev_move (.inl rfl) rfl) (fun a122 hM121 => ?_)
  clear hM119
  refine s_val hM121 (.inr ⟨_, _, _, rfl, rfl, rfl⟩) rfl rfl (ev_move (.inl rfl) rfl) (fun a124 hM123 => ?_)
  clear hM121
  refine s_val hM123 (.inr ⟨_, _, _, rfl, rfl, rfl⟩) rfl rfl (ev_bin rfl rfl rfl g_int (b_eql (b := true) (by decide))) (fun a126 hM125 => ?_)
  clear hM123
  refine s_val hM125 (.inl rfl) rfl rfl (ev_pick rfl rfl rfl) (fun a128 hM127 => ?_)
  clear hM125
  refine s_val hM127 (.inl rfl) rfl rfl (ev_move (.inl rfl) rfl) (fun a130 hM129 => ?_)
  clear hM127
  refine s_val hM129 (.inr ⟨_, _, _, rfl, rfl, rfl⟩) rfl rfl (ev_move (.inl rfl) rfl) (fun a132 hM131 => ?_)
  clear hM129
  refine s_val hM131 (.inr ⟨_, _, _, rfl, rfl, rfl⟩) rfl rfl (ev_bin rfl rfl rfl g_int (b_eql (b := true) (by decide))) (fun a134 hM133 => ?_)
  clear hM131
  refine s_val hM133 (.inl rfl) rfl rfl (ev_pick rfl rfl rfl) (fun a136 hM135 => ?_)
  clear hM133
  refine s_val hM135 (.inl rfl) rfl rfl (ev_move (.inl rfl) rfl) (fun a138 hM137 => ?_)
  clear hM135
  refine s_val hM137 (.inr ⟨_, _, _, rfl, rfl, rfl⟩) rfl rfl (ev_move (.inl rfl) rfl) (fun a140 hM139 => ?_)
  clear hM137
  refine s_val hM139 (.inr ⟨_, _, _, rfl, rfl, rfl⟩) rfl rfl (ev_loadm rfl rfl (KB102.out.on HB104.out).rng Try.underlying42 rfl (by rw [HC.out]; exact Try.infoMsg)) (fun a142 hM141 => ?_)
  clear hM139
  refine s_call hM141 (.inr ⟨_, _, _, rfl, rfl, rfl⟩) rfl rfl (f := 23) (args := #[.pointer (some ⟨g, 0, none⟩), .int .i64 4, .slice none 0 0, .agg C]) (ev_call hM141 rfl rfl rfl (fun w => by simp [go_sem]) _) (real_Check 4 wk8 zV _ (hide ((HBW.out.below HB104.out)).bw.bk) (hide sl_nil) (by omega) (hide (wk8_s _)) (hide wk8_z) HC (r := 0) wk8_2) (fun e w143 hp => ?_)
  obtain ⟨rfl, hb144⟩ := hp
  refine ⟨_, rfl, fun a146 hM145 => ?_⟩
  clear hM141
  have HB147 := hide (below_then HB104.out hb144)
  clear hb144 HB104
  refine s_call hM145 (.inr ⟨_, _, _, rfl, rfl, rfl⟩) rfl rfl (f := 19) (args := #[.int .i64 0]) (ev_call hM145 rfl rfl rfl (fun w => by simp [go_sem]) _) (law8_num _ _) (fun e w148 hp => ?_)
  obtain ⟨rfl, rfl⟩ := hp
  refine ⟨_, rfl, fun a151 hM150 => ?_⟩
  clear hM145
  refine s_val hM150 (.inr ⟨_, _, _, rfl, rfl, rfl⟩) rfl rfl (ev_bin rfl rfl rfl g_int (b_eql (b := true) (by decide))) (fun a153 hM152 => ?_)
  clear hM150
  refine s_val hM152 (.inl rfl) rfl rfl (ev_pick rfl rfl rfl) (fun a155 hM154 => ?_)
  clear hM152
  refine s_val hM154 (.inl rfl) rfl rfl (ev_move (.inr rfl) rfl) (fun a157 hM156 => ?_)
  clear hM154
  refine seg_nil (hK112 _ _ ?_)
  clear hK112 K112 QK112
  have hM158 := hM156.cut1 (t1 := 0) rfl
  clear hM156
  refine wp_ret ?_
  repeat (with_reducible first | refine th_r ?_ | refine inb_r ?_ | refine js_r ?_)
  refine ret_of (t := 0) rfl hM158 rfl ?_
  exact ⟨rfl, ((HBW.out.below HB147.out)).bw.below⟩
end Go.Proofs.Ytebaojcfmkobjaa
