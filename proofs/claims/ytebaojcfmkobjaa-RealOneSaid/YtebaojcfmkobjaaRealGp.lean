/-
  The statements of layer 8: wakes.
-/
import Derived.Test.YtebaojcfmkobjaaRealFp
import Derived.Test.YtebaojcfmkobjaaSegK
import Derived.Test.YtebaojcfmkobjaaGr26
set_option linter.unusedVariables false
set_option linter.unusedSimpArgs false
namespace Go.Proofs.Ytebaojcfmkobjaa
open Go.RowKit

def BkK (w0 : World) (G : Nat → Prop) (w : World) (g : Nat) (L : List (List UInt8)) (sg : Int × Int → Bool) : Prop := BkW w0 G w g L sg
theorem BkK.bw {w0 w : World} {G : Nat → Prop} {g : Nat} {L : List (List UInt8)} {sg : Int × Int → Bool} (h : BkK w0 G w g L sg) : BkW w0 G w g L sg := h
theorem BkK.below {w0 w w' : World} {G : Nat → Prop} {g : Nat} {L : List (List UInt8)} {sg : Int × Int → Bool} (h : BkK w0 G w g L sg) (hb : Below w.heap.size w w') : BkK w0 G w' g L sg := BkW.step h hb
theorem BkK.sign {w0 w w' : World} {G : Nat → Prop} {g : Nat} {L : List (List UInt8)} {sg sg' : Int × Int → Bool} (h : BkK w0 G w g L sg) (h1 : BkI G w' g L sg') (h2 : Chg G w w') : BkK w0 G w' g L sg' := ⟨h1, h.bw.lo, h.bw.below.trans (h2.to_below h.bw.lo h.bw.below.size)⟩
theorem sl_nil {w : World} : Sl w 1 none 0 (ints []) := ⟨rfl, fun h => absurd h (by omega)⟩
def wk8 : MsD := ⟨5, 1, 2, 1, zB, zH, zC, []⟩
theorem wk8_s (w : World) : MsS w wk8 zV := zV_s w wk8 ⟨rfl, rfl, rfl, rfl⟩
theorem wk8_z : MsZ wk8 zV := zV_z wk8 ⟨rfl, rfl, rfl, rfl⟩
theorem wk8_1 : chkE [[120]] (fun _ => false) [] 4 wk8 = 7 := by decide
theorem wk8_2 : chkE [[120]] (sgUp 0 (fun _ => false) (1, 1)) [] 4 wk8 = 0 := by decide

set_option maxRecDepth 100000 in
set_option maxHeartbeats 4000000 in
theorem law8_wakes (w : World) : Calls Try.prog 28 #[] w fun e w' => e = .returned (.bool true) ∧ Below w.heap.size w w' := by
  obtain ⟨C, HC⟩ : ∃ C : Array Value, Hid (C = msC wk8 zV) := ⟨_, rfl⟩

  go_enter Try.func28, Try.ntmps28
  refine act_off 45 [] (Frm.start rfl (by intro p hp; simp at hp)) (fun a0 hM => ?_)
  have HB2 : Hid (Below w.heap.size w w) := Below.refl _ _
  refine region_then fun K3 QK3 hK3 => ?_
  refine s_val hM (.inl rfl) rfl rfl (ev_move (.inr rfl) rfl) (fun a5 hM4 => ?_)
  clear hM
  refine seg_nil (hK3 _ _ ?_)
  clear hK3 K3 QK3
  have hM6 := hM4.cut0 
  clear hM4
  refine region_then fun K7 QK7 hK7 => ?_
  refine s_call hM6 (.inl rfl) rfl rfl (f := 16) (args := #[]) (ev_call hM6 rfl rfl rfl (fun w => by simp [go_sem]) _) (book_New _) (fun e w8 hp => ?_)
  obtain ⟨g, G, rfl, hB, hlo, hb9⟩ := hp
  have HBW := hide (show BkK w G w8 g [] (fun _ => false) from ⟨hB, hlo, hb9⟩)
  clear hB hlo
  refine ⟨_, rfl, fun a11 hM10 => ?_⟩
  clear hM6
  have HB12 := hide (below_then HB2.out hb9)
  clear hb9 HB2
  have HB14 : Hid (Below w8.heap.size w8 w8) := Below.refl _ _
  refine s_val hM10 (.inl rfl) rfl rfl (ev_move (.inr rfl) rfl) (fun a16 hM15 => ?_)
  clear hM10
  refine seg_nil (hK7 _ _ ?_)
  clear hK7 K7 QK7
  have hM17 := hM15.cut1 (t1 := 1) rfl
  clear hM15
  refine wp_seq_k fun K18 hK18 => ?_
  refine region_then fun K19 QK19 hK19 => ?_
  refine s_val hM17 (.inl rfl) rfl rfl (ev_move (.inl rfl) rfl) (fun a21 hM20 => ?_)
  clear hM17
  refine s_val hM20 (.inl rfl) rfl rfl (ev_ptrnil rfl rfl (u_ptr (by kernel_rfl)) g_ptr) (fun a23 hM22 => ?_)
  clear hM20
  refine seg_nil (hK19 _ _ ?_)
  clear hK19 K19 QK19
  have hM24 := hM22.cut2 (t1 := 1) (t2 := 9) rfl rfl
  clear hM22
  refine wp_cond_false (hM24.ev (t := 9) rfl) ?_
  refine wp_skip ?_
  refine hK18 _ _ ?_
  refine region_then fun K25 QK25 hK25 => ?_
  refine s_val hM24 (.inl rfl) rfl rfl (ev_move (.inl rfl) rfl) (fun a27 hM26 => ?_)
  clear hM24
  refine s_cbytes (k := 1) (C := #[.int .u8 120]) hM26 rfl rfl rfl rfl rfl (fun w => by kernel_rfl) rfl rfl rfl rfl Try.underlying60 Try.underlying5 rfl (fun g28 a33 w29 hM32 HCB34_ hb30 hg31 => ?_)
  have HCB34 := hide HCB34_
  clear HCB34_ hM26
  have lo35 := hide (Nat.le_trans HB12.out.size hg31)
  have lo36 := hide (Nat.le_trans HB14.out.size hg31)
  clear hg31
  have HB37 := hide (below_then HB12.out hb30)
  have HB38 := hide (below_then HB14.out hb30)
  clear hb30 HB12 HB14
  have HB40 : Hid (Below w29.heap.size w29 w29) := Below.refl _ _
  refine s_call hM32 (.inl rfl) rfl rfl (f := 30) (args := #[.pointer (some ⟨g, 0, none⟩), .slice ((some ⟨g28, 0, none⟩)) 1 1]) (ev_call hM32 rfl rfl rfl (fun w => by simp [go_sem]) _) (book_Digest (x := [120]) (n := 1) _ ((HBW.out.below HB38.out)).bw.bk (show Sl _ 1 _ 1 (bytes8 [120]) from (HCB34.out.below HB40.out)) (by show 1 ≤ 1048576; omega) (by show 0 ≤ 65535; omega) (hide (fun _ b off e h => by injection e with e; injection e with e1 _; have h1 := HBW.out.bw.bk.lt b h; have h2 := lo36.out; omega)) (d := 1) rfl (L' := [[120]]) rfl) (fun e w41 hp => ?_)
  obtain ⟨rfl, hn⟩ := hp
  obtain ⟨G2, hB2, -⟩ := ((HBW.out.below HB38.out)).bw.next hn
  have HBW_ := hide (show BkK w G2 w41 g [[120]] (fun _ => false) from hB2)
  clear HB37 HB38 HB40 HBW hn hB2
  have HBW := HBW_
  clear HBW_
  have HB46 : Hid (Below w41.heap.size w41 w41) := Below.refl _ _
  clear HCB34
  refine ⟨_, rfl, fun a44 hM43 => ?_⟩
  clear hM32
  refine s_val hM43 (.inl rfl) rfl rfl (ev_move (.inl rfl) rfl) (fun a48 hM47 => ?_)
  clear hM43
  refine s_val hM47 (.inl rfl) rfl rfl (ev_ext (v := .int .i64 1) rfl rfl rfl) (fun a50 hM49 => ?_)
  clear hM47
  refine s_val hM49 (.inl rfl) rfl rfl (ev_ext (v := .int .i64 0) rfl rfl rfl) (fun a52 hM51 => ?_)
  clear hM49
  refine s_val hM51 (.inl rfl) rfl rfl (ev_move (.inr rfl) rfl) (fun a54 hM53 => ?_)
  clear hM51
  refine s_val hM53 (.inl rfl) rfl rfl (ev_move (.inr rfl) rfl) (fun a56 hM55 => ?_)
  clear hM53
  refine seg_nil (hK25 _ _ ?_)
  clear hK25 K25 QK25
  have hM57 := hM55.cut3 (t1 := 1) (t2 := 2) (t3 := 3) rfl rfl rfl
  clear hM55
  refine region_then fun K58 QK58 hK58 => ?_
  refine s_val hM57 (.inl rfl) rfl rfl (ev_move (.inl rfl) rfl) (fun a60 hM59 => ?_)
  clear hM57
  refine s_val hM59 (.inl rfl) rfl rfl (ev_buildg (v := .agg C) rfl rfl (fun w => by rw [HC.out]; kernel_rfl)) (fun a62 hM61 => ?_)
  clear hM59
  refine s_new hM61 rfl rfl rfl rfl alloc_msg rfl rfl rfl rfl (by rw [HC.out]; exact Try.infoMsg) (by rw [HC.out]; rfl) (one_msg HC.out) (fun g63 a69 w64 hM68 KB67_ hb65 hg66 => ?_)
  have KB67 := hide KB67_
  clear hM61 KB67_
  have lo70 := hide (Nat.le_trans HB46.out.size hg66)
  clear hg66
  have HB71 := hide (below_then HB46.out hb65)
  clear hb65 HB46
  have HB73 : Hid (Below w64.heap.size w64 w64) := Below.refl _ _
  have HNG : Hid (¬ G2 g63) := fun h => by have h1 := HBW.out.bw.bk.lt _ h; have h2 := lo70.out; omega
  refine seg_nil (hK58 _ _ ?_)
  clear hK58 K58 QK58
  have hM74 := hM68.cut4 (t1 := 1) (t2 := 2) (t3 := 3) (t4 := 4) rfl rfl rfl rfl
  clear hM68
  refine region_then fun K75 QK75 hK75 => ?_
  refine s_val hM74 (.inl rfl) rfl rfl (ev_move (.inl rfl) rfl) (fun a77 hM76 => ?_)
  clear hM74
  refine s_val hM76 (.inl rfl) rfl rfl (ev_loadm rfl rfl (KB67.out.on HB73.out).rng Try.underlying42 rfl (by rw [HC.out]; exact Try.infoMsg)) (fun a79 hM78 => ?_)
  clear hM76
  refine s_call hM78 (.inl rfl) rfl rfl (f := 23) (args := #[.pointer (some ⟨g, 0, none⟩), .int .i64 4, .slice none 0 0, .agg C]) (ev_call hM78 rfl rfl rfl (fun w => by simp [go_sem]) _) (real_Check 4 wk8 zV _ (hide ((HBW.out.below HB71.out)).bw.bk) (hide sl_nil) (by omega) (hide (wk8_s _)) (hide wk8_z) HC (r := 7) wk8_1) (fun e w80 hp => ?_)
  obtain ⟨rfl, hb81⟩ := hp
  refine ⟨_, rfl, fun a83 hM82 => ?_⟩
  clear hM78
  have HB84 := hide (below_then HB71.out hb81)
  have HB85 := hide (below_then HB73.out hb81)
  clear hb81 HB71 HB73
  refine s_call hM82 (.inl rfl) rfl rfl (f := 19) (args := #[.int .i64 7]) (ev_call hM82 rfl rfl rfl (fun w => by simp [go_sem]) _) (law8_num _ _) (fun e w86 hp => ?_)
  obtain ⟨rfl, rfl⟩ := hp
  refine ⟨_, rfl, fun a89 hM88 => ?_⟩
  clear hM82
  refine s_val hM88 (.inl rfl) rfl rfl (ev_move (.inr rfl) rfl) (fun a91 hM90 => ?_)
  clear hM88
  refine seg_nil (hK75 _ _ ?_)
  clear hK75 K75 QK75
  have hM92 := hM90.cut5 (t1 := 1) (t2 := 2) (t3 := 3) (t4 := 4) (t5 := 5) rfl rfl rfl rfl rfl
  clear hM90
  refine region_then fun K93 QK93 hK93 => ?_
  refine s_val hM92 (.inl rfl) rfl rfl (ev_move (.inl rfl) rfl) (fun a95 hM94 => ?_)
  clear hM92
  refine s_val hM94 (.inl rfl) rfl rfl (ev_move (.inl rfl) rfl) (fun a97 hM96 => ?_)
  clear hM94
  refine s_call hM96 (.inl rfl) rfl rfl (f := 20) (args := #[.pointer (some ⟨g, 0, none⟩), .int .i64 1, .int .i64 1]) (ev_call hM96 rfl rfl rfl (fun w => by simp [go_sem]) _) (book_Sign 1 1 _ ((HBW.out.below HB84.out)).bw.bk (r := 0) rfl) (fun e w98 hp => ?_)
  obtain ⟨rfl, h1, h2⟩ := hp
  have HBW_ := hide (((HBW.out.below HB84.out)).sign h1 h2)
  have KB102 := hide (((KB67.out.on HB85.out)).chg h2 HNG.out)
  clear HB84 HB85 KB67 HBW h1 h2
  have HBW := HBW_
  clear HBW_
  have HB104 : Hid (Below w98.heap.size w98 w98) := Below.refl _ _
  refine ⟨_, rfl, fun a101 hM100 => ?_⟩
  clear hM96
  refine s_call hM100 (.inl rfl) rfl rfl (f := 19) (args := #[.int .i64 0]) (ev_call hM100 rfl rfl rfl (fun w => by simp [go_sem]) _) (law8_num _ _) (fun e w105 hp => ?_)
  obtain ⟨rfl, rfl⟩ := hp
  refine ⟨_, rfl, fun a108 hM107 => ?_⟩
  clear hM100
  refine s_val hM107 (.inl rfl) rfl rfl (ev_move (.inr rfl) rfl) (fun a110 hM109 => ?_)
  clear hM107
  refine seg_nil (hK93 _ _ ?_)
  clear hK93 K93 QK93
  have hM111 := hM109.cut6 (t1 := 1) (t2 := 2) (t3 := 3) (t4 := 4) (t5 := 5) (t6 := 6) rfl rfl rfl rfl rfl rfl
  clear hM109
  refine region_then fun K112 QK112 hK112 => ?_
  refine s_val hM111 (.inl rfl) rfl rfl (ev_move (.inl rfl) rfl) (fun a114 hM113 => ?_)
  clear hM111
  refine s_call hM113 (.inl rfl) rfl rfl (f := 19) (args := #[.int .i64 0]) (ev_call hM113 rfl rfl rfl (fun w => by simp [go_sem]) _) (law8_num _ _) (fun e w115 hp => ?_)
  obtain ⟨rfl, rfl⟩ := hp
  refine ⟨_, rfl, fun a118 hM117 => ?_⟩
  clear hM113
  refine s_val hM117 (.inl rfl) rfl rfl (ev_bin rfl rfl rfl g_int (b_eql (b := true) (by decide))) (fun a120 hM119 => ?_)
  clear hM117
  refine s_val hM119 (.inl rfl) rfl rfl (ev_move (.inl rfl) rfl) (fun a122 hM121 => ?_)
  clear hM119
  refine s_val hM121 (.inr ⟨_, _, _, rfl, rfl, rfl⟩) rfl rfl (ev_move (.inl rfl) rfl) (fun a124 hM123 => ?_)
  clear hM121
  refine s_val hM123 (.inr ⟨_, _, _, rfl, rfl, rfl⟩) rfl rfl (ev_bin rfl rfl rfl g_int (b_eql (b := true) (by decide))) (fun a126 hM125 => ?_)
  clear hM123
  refine s_val hM125 (.inl rfl) rfl rfl (ev_pick rfl rfl rfl) (fun a128 hM127 => ?_)
  clear hM125
  refine s_val hM127 (.inl rfl) rfl rfl (ev_move (.inl rfl) rfl) (fun a130 hM129 => ?_)
  clear hM127
  refine s_val hM129 (.inr ⟨_, _, _, rfl, rfl, rfl⟩) rfl rfl (ev_move (.inl rfl) rfl) (fun a132 hM131 => ?_)
  clear hM129
  refine s_val hM131 (.inr ⟨_, _, _, rfl, rfl, rfl⟩) rfl rfl (ev_bin rfl rfl rfl g_int (b_eql (b := true) (by decide))) (fun a134 hM133 => ?_)
  clear hM131
  refine s_val hM133 (.inl rfl) rfl rfl (ev_pick rfl rfl rfl) (fun a136 hM135 => ?_)
  clear hM133
  refine s_val hM135 (.inl rfl) rfl rfl (ev_move (.inl rfl) rfl) (fun a138 hM137 => ?_)
  clear hM135
  refine s_val hM137 (.inr ⟨_, _, _, rfl, rfl, rfl⟩) rfl rfl (ev_move (.inl rfl) rfl) (fun a140 hM139 => ?_)
  clear hM137
  refine s_val hM139 (.inr ⟨_, _, _, rfl, rfl, rfl⟩) rfl rfl (ev_loadm rfl rfl (KB102.out.on HB104.out).rng Try.underlying42 rfl (by rw [HC.out]; exact Try.infoMsg)) (fun a142 hM141 => ?_)
  clear hM139
  refine s_call hM141 (.inr ⟨_, _, _, rfl, rfl, rfl⟩) rfl rfl (f := 23) (args := #[.pointer (some ⟨g, 0, none⟩), .int .i64 4, .slice none 0 0, .agg C]) (ev_call hM141 rfl rfl rfl (fun w => by simp [go_sem]) _) (real_Check 4 wk8 zV _ (hide ((HBW.out.below HB104.out)).bw.bk) (hide sl_nil) (by omega) (hide (wk8_s _)) (hide wk8_z) HC (r := 0) wk8_2) (fun e w143 hp => ?_)
  obtain ⟨rfl, hb144⟩ := hp
  refine ⟨_, rfl, fun a146 hM145 => ?_⟩
  clear hM141
  have HB147 := hide (below_then HB104.out hb144)
  clear hb144 HB104
  refine s_call hM145 (.inr ⟨_, _, _, rfl, rfl, rfl⟩) rfl rfl (f := 19) (args := #[.int .i64 0]) (ev_call hM145 rfl rfl rfl (fun w => by simp [go_sem]) _) (law8_num _ _) (fun e w148 hp => ?_)
  obtain ⟨rfl, rfl⟩ := hp
  refine ⟨_, rfl, fun a151 hM150 => ?_⟩
  clear hM145
  refine s_val hM150 (.inr ⟨_, _, _, rfl, rfl, rfl⟩) rfl rfl (ev_bin rfl rfl rfl g_int (b_eql (b := true) (by decide))) (fun a153 hM152 => ?_)
  clear hM150
  refine s_val hM152 (.inl rfl) rfl rfl (ev_pick rfl rfl rfl) (fun a155 hM154 => ?_)
  clear hM152
  refine s_val hM154 (.inl rfl) rfl rfl (ev_move (.inr rfl) rfl) (fun a157 hM156 => ?_)
  clear hM154
  refine seg_nil (hK112 _ _ ?_)
  clear hK112 K112 QK112
  have hM158 := hM156.cut1 (t1 := 0) rfl
  clear hM156
  refine wp_ret ?_
  repeat (with_reducible first | refine th_r ?_ | refine inb_r ?_ | refine js_r ?_)
  refine ret_of (t := 0) rfl hM158 rfl ?_
  exact ⟨rfl, ((HBW.out.below HB147.out)).bw.below⟩
end Go.Proofs.Ytebaojcfmkobjaa
