/-
  Contracts: what a judge asks of a certificate, of any message.
-/
import Derived.Test.YtebaojcfmkobjaaGr22
set_option linter.unusedVariables false
set_option linter.unusedSimpArgs false
namespace Go.Proofs.Ytebaojcfmkobjaa
open Go.RowKit

def hdC (x : MsD) (v : MsV) : Array Value := #[.int .i64 x.h.a, .int .i64 x.h.r, .slice v.hb.A v.hb.n v.hb.c, .slice v.hp.A v.hp.n v.hp.c]
def chC (x : MsD) (v : MsV) : Array Value := #[.int .i64 x.c.h.a, .int .i64 x.c.h.r, .slice v.cb.A v.cb.n v.cb.c, .slice v.cp.A v.cp.n v.cp.c]
def btC (x : MsD) (v : MsV) : Array Value := #[.int .i64 x.b.a, .int .i64 x.b.n, .slice v.tx.A v.tx.n v.tx.c]
def jdC (g : Nat) (A : Option Addr) (n c : Nat) : Array Value := #[.pointer (some ⟨g, 0, none⟩), .slice A n c]
theorem sub_hd {x : MsD} {v : MsV} {C D : Array Value} (h : C = msC x v) (hd : D = hdC x v) : ∀ j z, D[j]? = some z → C[7 + j]? = some z := by subst hd; exact sub_hdr h
theorem sub_bt {x : MsD} {v : MsV} {C D : Array Value} (h : C = msC x v) (hd : D = btC x v) : ∀ j z, D[j]? = some z → C[4 + j]? = some z := by subst hd; exact sub_batch h
theorem sub_ch {x : MsD} {v : MsV} {C D : Array Value} (h : C = ctC x v) (hd : D = chC x v) : ∀ j z, D[j]? = some z → C[0 + j]? = some z := by subst hd; exact sub_chdr h
theorem info_judge : (Try.prog.info? 80).map (·.size) = some 2 := by kernel_rfl
theorem info_hdr : (Try.prog.info? 38).map (·.size) = some 4 := by kernel_rfl
theorem info_bat : (Try.prog.info? 36).map (·.size) = some 3 := by kernel_rfl
theorem info_cert : (Try.prog.info? 40).map (·.size) = some 6 := by kernel_rfl
theorem headerB_le {x : HdD} (h : formH 16 x = true) : (headerB x).length ≤ 300 := by have := hdB_le (x := x); unfold hdB at this; rw [if_pos h] at this; exact this
theorem batchB_le {x : BtD} (h : mayB x.a x.n x.l = true) : (batchB x.a x.n x.l).length ≤ 2000 := by have := btB_le (x := x); unfold btB at this; rw [if_pos h] at this; exact this
theorem cert_step {f : Int → Bool} {l : List Int} {i : Nat} {u : Int} (hu : l[i]? = some u) : (l.drop i).all f = (f u && (l.drop (i + 1)).all f) := by rw [drop_at hu]; rfl

set_option maxRecDepth 100000 in
set_option maxHeartbeats 4000000 in
theorem judge_cert {G : Nat → Prop} {g : Nat} {L : List (List UInt8)} {sg : Int × Int → Bool} {A : Option Addr} {n c : Nat} {ls : List Int} (x : MsD) (v : MsV) (w : World) {JC : Array Value} (HJ : Hid (JC = jdC g A n c)) (HB : Hid (BkI G w g L sg)) (HL : Hid (Sl w 1 A n (ints ls))) (hn : n ≤ 9223372036854775807) (HS : Hid (MsS w x v)) (HZ : Hid (MsZ x v)) (HF : Hid (formH 16 x.c.h = true)) (H1 : Hid (1 ≤ x.c.d)) {D : Array Value} (HD : Hid (D = ctC x v)) {r : Bool} (hr : Hid (certB L sg ls x.c = r)) :
    Calls Try.prog 72 #[.agg JC, .agg D] w fun e w' => e = .returned (.bool r) ∧ Below w.heap.size w w' := by

  go_enter Try.func72, Try.ntmps72
  refine act_off 37 [(0, .agg JC), (1, .agg D)] (Frm.start rfl (by intro p hp; simp only [List.mem_cons, List.not_mem_nil, or_false] at hp; rcases hp with rfl | rfl <;> rfl)) (fun a0 hM => ?_)
  have HB2 : Hid (Below w.heap.size w w) := Below.refl _ _
  refine region_then fun K3 QK3 hK3 => ?_
  refine s_alloc (e := 80) hM (.inl rfl) rfl rfl (V := fun g => .pointer (some ⟨g, 0, none⟩)) (ev_box hM rfl rfl) (fun g4 a10 w5 hM9 KB8_ hb6 hg7 => ?_)
  have KB8 := hide KB8_
  clear hM KB8_
  clear hg7
  have HB11 := hide (below_then HB2.out hb6)
  clear hb6 HB2
  have HB13 : Hid (Below w5.heap.size w5 w5) := Below.refl _ _
  refine s_alloc (e := 40) hM9 (.inl rfl) rfl rfl (V := fun g => .pointer (some ⟨g, 0, none⟩)) (ev_box hM9 rfl rfl) (fun g14 a20 w15 hM19 KB18_ hb16 hg17 => ?_)
  have KB18 := hide KB18_
  clear hM9 KB18_
  clear hg17
  have HB21 := hide (below_then HB11.out hb16)
  have HB22 := hide (below_then HB13.out hb16)
  clear hb16 HB11 HB13
  have HB24 : Hid (Below w15.heap.size w15 w15) := Below.refl _ _
  obtain ⟨CH, HCH⟩ : ∃ C : Array Value, Hid (C = chC x v) := ⟨_, rfl⟩
  have HRCH : Hid (Rng w15 g14 0 CH) := ((KB18.out).rng).sub 0 (sub_ch HD.out HCH.out)
  refine s_val hM19 (.inl rfl) rfl rfl (ev_move (.inr rfl) rfl) (fun a26 hM25 => ?_)
  clear hM19
  refine seg_nil (hK3 _ _ ?_)
  clear hK3 K3 QK3
  have hM27 := hM25.cut2 (t1 := 2) (t2 := 3) rfl rfl
  clear hM25
  have hM28 := hM27.cut2 (t1 := 2) (t2 := 3) rfl rfl
  clear hM27
  refine scope_two 0 1 (by decide) (fun a w' => Frm a 37 [(2, .pointer (some ⟨g4, 0, none⟩)), (3, .pointer (some ⟨g14, 0, none⟩))] ∧ Hid (Below w.heap.size w w') ∧ Hid (Below w5.heap.size w5 w') ∧ Hid (Below w15.heap.size w15 w') ∧ Hid (r = false)) (fun m a w' => ∃ i : Nat, m = v.cs.n - i ∧ i ≤ v.cs.n ∧ Frm a 37 [(7, .int .i64 (i : Int)), (2, .pointer (some ⟨g4, 0, none⟩)), (3, .pointer (some ⟨g14, 0, none⟩))] ∧ Hid (Below w.heap.size w w') ∧ Hid (Below w5.heap.size w5 w') ∧ Hid (Below w15.heap.size w15 w') ∧ Hid ((x.c.ss.drop i).all (fun z => byB sg ls z x.c.d) = r)) rfl rfl ?_ ?_ ?_
  · skip
    clear hM28 HB21 HB22 HB24
    rintro J a1 w1 ⟨hM32, HB29, HB30, HB31, HNO⟩
    refine region_then fun K33 QK33 hK33 => ?_
    refine s_val hM32 (.inl rfl) rfl rfl (ev_move (.inr rfl) rfl) (fun a35 hM34 => ?_)
    clear hM32
    refine seg_nil (hK33 _ _ ?_)
    clear hK33 K33 QK33
    have hM36 := hM34.cut1 (t1 := 4) rfl
    clear hM34
    refine wp_ret ?_
    repeat (with_reducible first | refine th_r ?_ | refine inb_r ?_ | refine js_r ?_)
    refine ret_of (t := 4) rfl hM36 rfl ?_
    exact ⟨ret_bool HNO.out.symm, HB29.out⟩
  · skip
    clear hM28 HB21 HB22 HB24
    rintro m a1 w1 ⟨i, rfl, hi, hM40, HB37, HB38, HB39, HX⟩
    refine wp_seq_k fun K41 hK41 => ?_
    have HLN := hide (Sl.ilen ((HS.out.below HB37.out)).cs)
    by_cases hlt : i < v.cs.n
    case neg =>
      have e0 : i = v.cs.n := by omega
      refine region_then fun K42 QK42 hK42 => ?_
      refine s_val hM40 (.inl rfl) rfl rfl (ev_move (.inl rfl) rfl) (fun a44 hM43 => ?_)
      clear hM40
      refine s_val hM43 (.inl rfl) rfl rfl (ev_fldw (m := 5) rfl rfl (fun w => by simp [go_sem])) (fun a46 hM45 => ?_)
      clear hM43
      refine s_val hM45 (.inl rfl) rfl rfl (ev_load1 (v := .slice (v.cs.A) (v.cs.n) (v.cs.c)) rfl rfl ((KB18.out.on HB39.out).rng.at_ (m := 5) (by rw [HD.out]; rfl)) (isAgg_no Try.underlying22 rfl)) (fun a48 hM47 => ?_)
      clear hM45
      refine s_val hM47 (.inl rfl) rfl rfl (ev_len rfl rfl Try.underlying22) (fun a50 hM49 => ?_)
      clear hM47
      refine s_val hM49 (.inl rfl) rfl rfl (ev_bin rfl rfl rfl g_int (b_eql (b := true) (by rw [e0]; simp))) (fun a52 hM51 => ?_)
      clear hM49
      refine seg_nil (hK42 _ _ ?_)
      clear hK42 K42 QK42
      have hM53 := hM51.cut4 (t1 := 2) (t2 := 3) (t3 := 7) (t4 := 25) rfl rfl rfl rfl
      clear hM51
      refine wp_cond_true (hM53.ev (t := 25) rfl) ?_
      refine region_then fun K54 QK54 hK54 => ?_
      refine s_val hM53 (.inl rfl) rfl rfl (ev_move (.inr rfl) rfl) (fun a56 hM55 => ?_)
      clear hM53
      refine seg_nil (hK54 _ _ ?_)
      clear hK54 K54 QK54
      have hM57 := hM55.cut1 (t1 := 4) rfl
      clear hM55
      refine wp_ret ?_
      repeat (with_reducible first | refine th_r ?_ | refine inb_r ?_ | refine js_r ?_)
      refine ret_of (t := 4) rfl hM57 rfl ?_
      exact ⟨ret_bool (by have h := HX.out; have h9 := HLN.out; rw [List.drop_eq_nil_of_le (by omega)] at h; exact h), HB37.out⟩
    case pos =>
      refine region_then fun K58 QK58 hK58 => ?_
      refine s_val hM40 (.inl rfl) rfl rfl (ev_move (.inl rfl) rfl) (fun a60 hM59 => ?_)
      clear hM40
      refine s_val hM59 (.inl rfl) rfl rfl (ev_fldw (m := 5) rfl rfl (fun w => by simp [go_sem])) (fun a62 hM61 => ?_)
      clear hM59
      refine s_val hM61 (.inl rfl) rfl rfl (ev_load1 (v := .slice (v.cs.A) (v.cs.n) (v.cs.c)) rfl rfl ((KB18.out.on HB39.out).rng.at_ (m := 5) (by rw [HD.out]; rfl)) (isAgg_no Try.underlying22 rfl)) (fun a64 hM63 => ?_)
      clear hM61
      refine s_val hM63 (.inl rfl) rfl rfl (ev_len rfl rfl Try.underlying22) (fun a66 hM65 => ?_)
      clear hM63
      refine s_val hM65 (.inl rfl) rfl rfl (ev_bin rfl rfl rfl g_int (b_eql (b := false) (by rw [decide_eq_false_iff_not]; omega))) (fun a68 hM67 => ?_)
      clear hM65
      refine seg_nil (hK58 _ _ ?_)
      clear hK58 K58 QK58
      have hM69 := hM67.cut4 (t1 := 2) (t2 := 3) (t3 := 7) (t4 := 25) rfl rfl rfl rfl
      clear hM67
      refine wp_cond_false (hM69.ev (t := 25) rfl) ?_
      refine wp_skip ?_
      refine hK41 _ _ ?_
      refine wp_seq_k fun K70 hK70 => ?_
      obtain ⟨bb, off, u, hA, HU, hcell, hbb⟩ := ((HS.out.below HB37.out)).cs.int hlt
      have HCE := hide (CellAt.of hcell)
      have HSZ := hide (((HS.out.below HB37.out)).cs)
      clear hcell hbb
      have HB72 : Hid (Below w1.heap.size w1 w1) := Below.refl _ _
      obtain ⟨q, HQ⟩ : ∃ q, Hid (byB sg ls u x.c.d = q) := ⟨_, rfl⟩
      have HST := cert_step (f := fun z => byB sg ls z x.c.d) HU.out
      rw [HX.out] at HST
      simp only [HQ.out] at HST
      cases q
      case true =>
        have HX2 : Hid ((x.c.ss.drop (i + 1)).all (fun z => byB sg ls z x.c.d) = r) := by rw [Bool.true_and] at HST; exact HST.symm
        clear HST
        refine h_open 9 rfl (by kernel_rfl) fun K73 w74 hb75 hK73 => ?_
        have HB76 := hide (below_then HB37.out hb75)
        have HB77 := hide (below_then HB38.out hb75)
        have HB78 := hide (below_then HB39.out hb75)
        have HB79 := hide (below_then HB72.out hb75)
        clear hb75 HB37 HB38 HB39 HB72
        have hS80 : Below w74.heap.size w74 w74 := Below.refl _ _
        refine h_val 0 rfl (by kernel_rfl) (by kernel_rfl) (by kernel_rfl) hM69 (.inl rfl) rfl rfl hS80 (fun w' hr => (ev_loadm rfl rfl ((KB8.out.on HB77.out).on hr).rng Try.underlying80 rfl (by rw [HJ.out]; exact info_judge))) (fun a82 hM81 => ?_)
        clear hM69
        refine h_val 1 rfl (by kernel_rfl) (by kernel_rfl) (by kernel_rfl) hM81 (.inl rfl) rfl rfl hS80 (fun w' hr => (ev_fldw (m := 5) rfl rfl (fun w => by simp [go_sem]))) (fun a84 hM83 => ?_)
        clear hM81
        refine h_val 2 rfl (by kernel_rfl) (by kernel_rfl) (by kernel_rfl) hM83 (.inl rfl) rfl rfl hS80 (fun w' hr => (ev_load1 (v := .slice (v.cs.A) (v.cs.n) (v.cs.c)) rfl rfl (((KB18.out.on HB78.out).on hr).rng.at_ (m := 5) (by rw [HD.out]; rfl)) (isAgg_no Try.underlying22 rfl))) (fun a86 hM85 => ?_)
        clear hM83
        refine h_val 3 rfl (by kernel_rfl) (by kernel_rfl) (by kernel_rfl) hM85 (.inl rfl) rfl rfl hS80 (fun w' hr => (ev_move (.inl rfl) rfl)) (fun a88 hM87 => ?_)
        clear hM85
        refine h_val 4 rfl (by kernel_rfl) (by kernel_rfl) (by kernel_rfl) hM87 (.inl rfl) rfl rfl hS80 (fun w' hr => (ev_idx (b := bb) (k := i) (sz := 1) (p := off + i) rfl (by rw [← hA]; rfl) rfl Try.underlying22 (by kernel_rfl) hlt (by omega))) (fun a90 hM89 => ?_)
        clear hM87
        refine h_val 5 rfl (by kernel_rfl) (by kernel_rfl) (by kernel_rfl) hM89 (.inl rfl) rfl rfl hS80 (fun w' hr => (ev_load1 (v := .int .i64 u) rfl rfl (((HCE.out.below HB79.out).below hr)).2 (isAgg_no Try.underlying3 rfl))) (fun a92 hM91 => ?_)
        clear hM89
        refine h_val 6 rfl (by kernel_rfl) (by kernel_rfl) (by kernel_rfl) hM91 (.inl rfl) rfl rfl hS80 (fun w' hr => (ev_fldw (m := 4) rfl rfl (fun w => by simp [go_sem]))) (fun a94 hM93 => ?_)
        clear hM91
        refine h_val 7 rfl (by kernel_rfl) (by kernel_rfl) (by kernel_rfl) hM93 (.inl rfl) rfl rfl hS80 (fun w' hr => (ev_load1 (v := .int .i64 (x.c.d)) rfl rfl (((KB18.out.on HB78.out).on hr).rng.at_ (m := 4) (by rw [HD.out]; rfl)) (isAgg_no Try.underlying3 rfl))) (fun a96 hM95 => ?_)
        clear hM93
        refine h_call 8 rfl (by kernel_rfl) hM95 (.inl rfl) rfl rfl (f := 70) (args := #[.agg JC, .int .i64 u, .int .i64 (x.c.d)]) (ev_call hM95 rfl rfl rfl (fun w => by simp [go_sem]) _) (by rw [HJ.out]; exact judge_by u x.c.d _ (HB.out.below HB76.out) (HL.out.below HB76.out) hn HQ) (fun e w97 hp => ?_)
        obtain ⟨rfl, hb98⟩ := hp
        have hS101 := s_in hS80 hb98
        refine ⟨_, rfl, fun a100 hM99 => ⟨hS101, ?_⟩⟩
        clear hM95
        have HB102 := hide (below_then HB76.out hb98)
        have HB103 := hide (below_then HB77.out hb98)
        have HB104 := hide (below_then HB78.out hb98)
        have HB105 := hide (below_then HB79.out hb98)
        clear hb98
        refine h_nil (by kernel_rfl) (hK73 _ _ ?_)
        clear hK73 K73 hS101 HB76 HB77 HB78 HB79
        have hM106 := hM99.cut4 (t1 := 2) (t2 := 3) (t3 := 7) (t4 := 34) rfl rfl rfl rfl
        clear hM99
        refine wp_cond_true (hM106.ev (t := 34) rfl) ?_
        refine region_then fun K107 QK107 hK107 => ?_
        refine s_val hM106 (.inl rfl) rfl rfl (ev_move (.inl rfl) rfl) (fun a109 hM108 => ?_)
        clear hM106
        refine s_val hM108 (.inl rfl) rfl rfl (ev_bin rfl rfl rfl g_int (b_add (r := ((i + 1 : Nat) : Int)) (by omega) (by have := HZ.out.cs; omega))) (fun a111 hM110 => ?_)
        clear hM108
        refine s_val hM110 (.inl rfl) rfl rfl (ev_move (.inr rfl) rfl) (fun a113 hM112 => ?_)
        clear hM110
        refine seg_nil (hK107 _ _ ?_)
        clear hK107 K107 QK107
        have hM114 := hM112.cut3 (t1 := 2) (t2 := 3) (t3 := 7) rfl rfl rfl
        clear hM112
        refine wp_goto ?_
        repeat (with_reducible first | refine th_g ?_ | refine inb_g ?_)
        refine js_g ?_
        have hM115 := hM114.cut3 (t1 := 7) (t2 := 2) (t3 := 3) rfl rfl rfl
        clear hM114
        exact J2.l1 ⟨v.cs.n - (i + 1), by omega, i + 1, rfl, by omega, hM115, HB102, HB103, HB104, HX2⟩
      case false =>
        have HNO : Hid (r = false) := by rw [Bool.false_and] at HST; exact HST
        clear HST
        refine h_open 9 rfl (by kernel_rfl) fun K116 w117 hb118 hK116 => ?_
        have HB119 := hide (below_then HB37.out hb118)
        have HB120 := hide (below_then HB38.out hb118)
        have HB121 := hide (below_then HB39.out hb118)
        have HB122 := hide (below_then HB72.out hb118)
        clear hb118 HB37 HB38 HB39 HB72
        have hS123 : Below w117.heap.size w117 w117 := Below.refl _ _
        refine h_val 0 rfl (by kernel_rfl) (by kernel_rfl) (by kernel_rfl) hM69 (.inl rfl) rfl rfl hS123 (fun w' hr => (ev_loadm rfl rfl ((KB8.out.on HB120.out).on hr).rng Try.underlying80 rfl (by rw [HJ.out]; exact info_judge))) (fun a125 hM124 => ?_)
        clear hM69
        refine h_val 1 rfl (by kernel_rfl) (by kernel_rfl) (by kernel_rfl) hM124 (.inl rfl) rfl rfl hS123 (fun w' hr => (ev_fldw (m := 5) rfl rfl (fun w => by simp [go_sem]))) (fun a127 hM126 => ?_)
        clear hM124
        refine h_val 2 rfl (by kernel_rfl) (by kernel_rfl) (by kernel_rfl) hM126 (.inl rfl) rfl rfl hS123 (fun w' hr => (ev_load1 (v := .slice (v.cs.A) (v.cs.n) (v.cs.c)) rfl rfl (((KB18.out.on HB121.out).on hr).rng.at_ (m := 5) (by rw [HD.out]; rfl)) (isAgg_no Try.underlying22 rfl))) (fun a129 hM128 => ?_)
        clear hM126
        refine h_val 3 rfl (by kernel_rfl) (by kernel_rfl) (by kernel_rfl) hM128 (.inl rfl) rfl rfl hS123 (fun w' hr => (ev_move (.inl rfl) rfl)) (fun a131 hM130 => ?_)
        clear hM128
        refine h_val 4 rfl (by kernel_rfl) (by kernel_rfl) (by kernel_rfl) hM130 (.inl rfl) rfl rfl hS123 (fun w' hr => (ev_idx (b := bb) (k := i) (sz := 1) (p := off + i) rfl (by rw [← hA]; rfl) rfl Try.underlying22 (by kernel_rfl) hlt (by omega))) (fun a133 hM132 => ?_)
        clear hM130
        refine h_val 5 rfl (by kernel_rfl) (by kernel_rfl) (by kernel_rfl) hM132 (.inl rfl) rfl rfl hS123 (fun w' hr => (ev_load1 (v := .int .i64 u) rfl rfl (((HCE.out.below HB122.out).below hr)).2 (isAgg_no Try.underlying3 rfl))) (fun a135 hM134 => ?_)
        clear hM132
        refine h_val 6 rfl (by kernel_rfl) (by kernel_rfl) (by kernel_rfl) hM134 (.inl rfl) rfl rfl hS123 (fun w' hr => (ev_fldw (m := 4) rfl rfl (fun w => by simp [go_sem]))) (fun a137 hM136 => ?_)
        clear hM134
        refine h_val 7 rfl (by kernel_rfl) (by kernel_rfl) (by kernel_rfl) hM136 (.inl rfl) rfl rfl hS123 (fun w' hr => (ev_load1 (v := .int .i64 (x.c.d)) rfl rfl (((KB18.out.on HB121.out).on hr).rng.at_ (m := 4) (by rw [HD.out]; rfl)) (isAgg_no Try.underlying3 rfl))) (fun a139 hM138 => ?_)
        clear hM136
        refine h_call 8 rfl (by kernel_rfl) hM138 (.inl rfl) rfl rfl (f := 70) (args := #[.agg JC, .int .i64 u, .int .i64 (x.c.d)]) (ev_call hM138 rfl rfl rfl (fun w => by simp [go_sem]) _) (by rw [HJ.out]; exact judge_by u x.c.d _ (HB.out.below HB119.out) (HL.out.below HB119.out) hn HQ) (fun e w140 hp => ?_)
        obtain ⟨rfl, hb141⟩ := hp
        have hS144 := s_in hS123 hb141
        refine ⟨_, rfl, fun a143 hM142 => ⟨hS144, ?_⟩⟩
        clear hM138
        have HB145 := hide (below_then HB119.out hb141)
        have HB146 := hide (below_then HB120.out hb141)
        have HB147 := hide (below_then HB121.out hb141)
        have HB148 := hide (below_then HB122.out hb141)
        clear hb141
        refine h_nil (by kernel_rfl) (hK116 _ _ ?_)
        clear hK116 K116 hS144 HB119 HB120 HB121 HB122
        have hM149 := hM142.cut4 (t1 := 2) (t2 := 3) (t3 := 7) (t4 := 34) rfl rfl rfl rfl
        clear hM142
        refine wp_cond_false (hM149.ev (t := 34) rfl) ?_
        refine wp_skip ?_
        refine hK70 _ _ ?_
        refine wp_seq_k fun K150 hK150 => ?_
        refine wp_label ?_
        refine hK150 _ _ ?_
        refine region_then fun K151 QK151 hK151 => ?_
        refine s_val hM149 (.inl rfl) rfl rfl (ev_move (.inr rfl) rfl) (fun a153 hM152 => ?_)
        clear hM149
        refine seg_nil (hK151 _ _ ?_)
        clear hK151 K151 QK151
        have hM154 := hM152.cut1 (t1 := 4) rfl
        clear hM152
        refine wp_ret ?_
        repeat (with_reducible first | refine th_r ?_ | refine inb_r ?_ | refine js_r ?_)
        refine ret_of (t := 4) rfl hM154 rfl ?_
        exact ⟨ret_bool HNO.out.symm, HB145.out⟩
  · skip
    intro hpass
    refine region_then fun K155 QK155 hK155 => ?_
    refine s_val hM28 (.inl rfl) rfl rfl (ev_fldw (m := 0) rfl rfl (fun w => by simp [go_sem])) (fun a157 hM156 => ?_)
    clear hM28
    refine s_val hM156 (.inl rfl) rfl rfl (ev_loadm rfl rfl (HRCH.out.below HB24.out) Try.underlying38 rfl (by rw [HCH.out]; exact info_hdr)) (fun a159 hM158 => ?_)
    clear hM156
    refine s_call hM158 (.inl rfl) rfl rfl (f := 71) (args := #[.agg CH]) (ev_call hM158 rfl rfl rfl (fun w => by simp [go_sem]) _) (by rw [HCH.out]; exact header_Bytes_yes x.c.h _ ((HS.out.below HB21.out)).cb ((HS.out.below HB21.out)).cp HF) (fun e w160 hp => ?_)
    obtain ⟨v', rfl, ho, hb161⟩ := hp
    obtain ⟨AH, cH, rfl⟩ := own_slice ho
    have HY := hide (Sl.of_own ho)
    clear ho
    refine ⟨_, rfl, fun a163 hM162 => ?_⟩
    clear hM158
    have HB164 := hide (below_then HB21.out hb161)
    have HB165 := hide (below_then HB22.out hb161)
    have HB166 := hide (below_then HB24.out hb161)
    clear hb161 HB21 HB22 HB24
    have HB168 : Hid (Below w160.heap.size w160 w160) := Below.refl _ _
    refine s_val hM162 (.inl rfl) rfl rfl (ev_move (.inl rfl) rfl) (fun a170 hM169 => ?_)
    clear hM162
    refine s_val hM169 (.inl rfl) rfl rfl (ev_ext rfl rfl rfl) (fun a172 hM171 => ?_)
    clear hM169
    refine s_val hM171 (.inl rfl) rfl rfl (ev_ext rfl rfl rfl) (fun a174 hM173 => ?_)
    clear hM171
    refine s_val hM173 (.inl rfl) rfl rfl (ev_move (.inr rfl) rfl) (fun a176 hM175 => ?_)
    clear hM173
    refine s_val hM175 (.inl rfl) rfl rfl (ev_move (.inr rfl) rfl) (fun a178 hM177 => ?_)
    clear hM175
    refine seg_nil (hK155 _ _ ?_)
    clear hK155 K155 QK155
    have hM179 := hM177.cut4 (t1 := 2) (t2 := 3) (t3 := 5) (t4 := 6) rfl rfl rfl rfl
    clear hM177
    refine region_then fun K180 QK180 hK180 => ?_
    refine s_val hM179 (.inl rfl) rfl rfl (ev_move (.inr rfl) rfl) (fun a182 hM181 => ?_)
    clear hM179
    refine seg_nil (hK180 _ _ ?_)
    clear hK180 K180 QK180
    have hM183 := hM181.cut5 (t1 := 2) (t2 := 3) (t3 := 5) (t4 := 6) (t5 := 7) rfl rfl rfl rfl rfl
    clear hM181
    refine wp_seq_k fun K184 hK184 => ?_
    obtain ⟨q, HI⟩ : ∃ q, Hid (isB L x.c.d (headerB x.c.h) = q) := ⟨_, rfl⟩
    cases q
    case true =>
      have HX : Hid ((x.c.ss.drop 0).all (fun z => byB sg ls z x.c.d) = r) := by have h := hr.out; unfold certB at h; rw [HI.out, Bool.true_and] at h; exact h
      refine region_then fun K185 QK185 hK185 => ?_
      refine s_val hM183 (.inl rfl) rfl rfl (ev_loadm rfl rfl (KB8.out.on HB165.out).rng Try.underlying80 rfl (by rw [HJ.out]; exact info_judge)) (fun a187 hM186 => ?_)
      clear hM183
      refine s_val hM186 (.inl rfl) rfl rfl (ev_fldw (m := 4) rfl rfl (fun w => by simp [go_sem])) (fun a189 hM188 => ?_)
      clear hM186
      refine s_val hM188 (.inl rfl) rfl rfl (ev_load1 (v := .int .i64 (x.c.d)) rfl rfl ((KB18.out.on HB166.out).rng.at_ (m := 4) (by rw [HD.out]; rfl)) (isAgg_no Try.underlying3 rfl)) (fun a191 hM190 => ?_)
      clear hM188
      refine s_val hM190 (.inl rfl) rfl rfl (ev_move (.inl rfl) rfl) (fun a193 hM192 => ?_)
      clear hM190
      refine s_val hM192 (.inl rfl) rfl rfl (ev_move (.inl rfl) rfl) (fun a195 hM194 => ?_)
      clear hM192
      refine s_call hM194 (.inl rfl) rfl rfl (f := 69) (args := #[.agg JC, .int .i64 (x.c.d), .slice AH ((headerB x.c.h).length) cH, .int .i64 0]) (ev_call hM194 rfl rfl rfl (fun w => by simp [go_sem]) _) (by rw [HJ.out]; exact judge_is (A := A) (n := n) (c := c) x.c.d _ (HB.out.below HB164.out) (HY.out.below HB168.out) (by have := headerB_le HF.out; omega) H1.out HI) (fun e w196 hp => ?_)
      obtain ⟨rfl, hb197⟩ := hp
      refine ⟨_, rfl, fun a199 hM198 => ?_⟩
      clear hM194
      have HB200 := hide (below_then HB164.out hb197)
      have HB201 := hide (below_then HB165.out hb197)
      have HB202 := hide (below_then HB166.out hb197)
      have HB203 := hide (below_then HB168.out hb197)
      clear hb197 HB164 HB165 HB166 HB168
      refine s_val hM198 (.inl rfl) rfl rfl (ev_not rfl rfl rfl) (fun a205 hM204 => ?_)
      clear hM198
      refine seg_nil (hK185 _ _ ?_)
      clear hK185 K185 QK185
      have hM206 := hM204.cut4 (t1 := 2) (t2 := 3) (t3 := 7) (t4 := 20) rfl rfl rfl rfl
      clear hM204
      refine wp_cond_false (hM206.ev (t := 20) rfl) ?_
      refine wp_skip ?_
      refine hK184 _ _ ?_
      refine wp_seq_k fun K207 hK207 => ?_
      refine wp_label ?_
      refine hK207 _ _ ?_
      have hM208 := hM206.cut3 (t1 := 7) (t2 := 2) (t3 := 3) rfl rfl rfl
      clear hM206
      exact hpass (v.cs.n - 0) _ _ ⟨0, rfl, Nat.zero_le _, hM208, HB200, HB201, HB202, HX⟩
    case false =>
      have HNO : Hid (r = false) := by have h := hr.out; unfold certB at h; rw [HI.out, Bool.false_and] at h; exact h.symm
      refine region_then fun K209 QK209 hK209 => ?_
      refine s_val hM183 (.inl rfl) rfl rfl (ev_loadm rfl rfl (KB8.out.on HB165.out).rng Try.underlying80 rfl (by rw [HJ.out]; exact info_judge)) (fun a211 hM210 => ?_)
      clear hM183
      refine s_val hM210 (.inl rfl) rfl rfl (ev_fldw (m := 4) rfl rfl (fun w => by simp [go_sem])) (fun a213 hM212 => ?_)
      clear hM210
      refine s_val hM212 (.inl rfl) rfl rfl (ev_load1 (v := .int .i64 (x.c.d)) rfl rfl ((KB18.out.on HB166.out).rng.at_ (m := 4) (by rw [HD.out]; rfl)) (isAgg_no Try.underlying3 rfl)) (fun a215 hM214 => ?_)
      clear hM212
      refine s_val hM214 (.inl rfl) rfl rfl (ev_move (.inl rfl) rfl) (fun a217 hM216 => ?_)
      clear hM214
      refine s_val hM216 (.inl rfl) rfl rfl (ev_move (.inl rfl) rfl) (fun a219 hM218 => ?_)
      clear hM216
      refine s_call hM218 (.inl rfl) rfl rfl (f := 69) (args := #[.agg JC, .int .i64 (x.c.d), .slice AH ((headerB x.c.h).length) cH, .int .i64 0]) (ev_call hM218 rfl rfl rfl (fun w => by simp [go_sem]) _) (by rw [HJ.out]; exact judge_is (A := A) (n := n) (c := c) x.c.d _ (HB.out.below HB164.out) (HY.out.below HB168.out) (by have := headerB_le HF.out; omega) H1.out HI) (fun e w220 hp => ?_)
      obtain ⟨rfl, hb221⟩ := hp
      refine ⟨_, rfl, fun a223 hM222 => ?_⟩
      clear hM218
      have HB224 := hide (below_then HB164.out hb221)
      have HB225 := hide (below_then HB165.out hb221)
      have HB226 := hide (below_then HB166.out hb221)
      have HB227 := hide (below_then HB168.out hb221)
      clear hb221 HB164 HB165 HB166 HB168
      refine s_val hM222 (.inl rfl) rfl rfl (ev_not rfl rfl rfl) (fun a229 hM228 => ?_)
      clear hM222
      refine seg_nil (hK209 _ _ ?_)
      clear hK209 K209 QK209
      have hM230 := hM228.cut4 (t1 := 2) (t2 := 3) (t3 := 7) (t4 := 20) rfl rfl rfl rfl
      clear hM228
      refine wp_cond_true (hM230.ev (t := 20) rfl) ?_
      refine wp_goto ?_
      repeat (with_reducible first | refine th_g ?_ | refine inb_g ?_)
      refine js_g ?_
      have hM231 := hM230.cut2 (t1 := 2) (t2 := 3) rfl rfl
      clear hM230
      exact J2.l0 ⟨hM231, HB224, HB225, HB226, HNO⟩
end Go.Proofs.Ytebaojcfmkobjaa
