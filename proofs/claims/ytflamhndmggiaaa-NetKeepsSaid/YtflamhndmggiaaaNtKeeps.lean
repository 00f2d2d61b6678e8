/-
  The walk of NetKeeps: whatever the acts, the call answers true and changes nothing that was there.
-/
import Derived.Test.YtflamhndmggiaaaGr16
set_option linter.unusedVariables false
set_option linter.unusedSimpArgs false
namespace Go.Proofs.Ytflamhndmggiaaa
open Go.RowKit

set_option maxRecDepth 100000 in
set_option maxHeartbeats 4000000 in
theorem walk_NetKeeps {v : Value} {w : World} (ho : ∃ A n c, v = .slice A n c ∧ Acts12 w A n) :
    Calls Try.prog 7 #[v] w fun r w' => r = .returned (.bool true) ∧ Below w.heap.size w w' := by
  obtain ⟨A, n, c, rfl, ha⟩ := ho
  obtain ⟨d, hf⟩ := acts_fun ha
  have hn := ha.1
  obtain ⟨ba, oa, hAe_⟩ : ∃ ba oa, 0 < n → A = some ⟨ba, oa, none⟩ := by
    by_cases h0 : 0 < n
    · obtain ⟨b, off, e, _⟩ := (hf.all 0 h0).at_
      exact ⟨b, off, fun _ => e⟩
    · exact ⟨0, 0, fun h => absurd h h0⟩
  have HAE := hide hAe_
  have HF := hide hf
  clear hf ha hAe_
  go_enter Try.func7, Try.ntmps7
  refine act_off 169 [(0, .slice A n c)] (Frm.start rfl (by intro p hp; simp only [List.mem_cons, List.not_mem_nil, or_false] at hp; subst hp; rfl)) (fun a0 hM => ?_)
  have HB2 : Hid (Below w.heap.size w w) := Below.refl _ _
  refine region_then fun K3 QK3 hK3 => ?_
  refine s_val hM (.inl rfl) rfl rfl (ev_move (.inr rfl) rfl) (fun a5 hM4 => ?_)
  clear hM
  refine seg_nil (hK3 _ _ ?_)
  clear hK3 K3 QK3
  have hM6 := hM4.cut2 (t1 := 0) (t2 := 2) rfl rfl
  clear hM4
  refine wp_seq_k fun K7 hK7 => ?_
  refine region_then fun K8 QK8 hK8 => ?_
  refine s_val hM6 (.inl rfl) rfl rfl (ev_move (.inl rfl) rfl) (fun a10 hM9 => ?_)
  clear hM6
  refine s_call hM9 (.inl rfl) rfl rfl (f := 40) (args := #[.slice A n c]) (ev_call hM9 rfl rfl rfl (fun w => by simp [go_sem]) _) (law12_heavy _ (HF.out.below HB2.out)) (fun e w11 hp => ?_)
  obtain ⟨⟨rv, rfl, hR⟩, rfl⟩ := hp
  refine ⟨_, rfl, fun a14 hM13 => ?_⟩
  clear hM9
  refine seg_nil (hK8 _ _ ?_)
  clear hK8 K8 QK8
  have hM15 := hM13.cut3 (t1 := 0) (t2 := 2) (t3 := 18) rfl rfl rfl
  clear hM13
  cases rv
  case true =>
    refine wp_cond_true (hM15.ev (t := 18) rfl) ?_
    refine region_then fun K16 QK16 hK16 => ?_
    refine s_val hM15 (.inl rfl) rfl rfl (ev_move (.inr rfl) rfl) (fun a18 hM17 => ?_)
    clear hM15
    refine seg_nil (hK16 _ _ ?_)
    clear hK16 K16 QK16
    have hM19 := hM17.cut1 (t1 := 2) rfl
    clear hM17
    refine wp_ret ?_
    repeat (with_reducible first | refine th_r ?_ | refine inb_r ?_ | refine js_r ?_)
    refine ret_of (t := 2) rfl hM19 rfl ?_
    exact ⟨rfl, HB2.out⟩
  case false =>
    have HL := hide (hR rfl)
    clear hR
    refine wp_cond_false (hM15.ev (t := 18) rfl) ?_
    refine wp_skip ?_
    refine hK7 _ _ ?_
    refine region_then fun K20 QK20 hK20 => ?_
    refine s_call hM15 (.inl rfl) rfl rfl (f := 41) (args := #[]) (ev_call hM15 rfl rfl rfl (fun w => by simp [go_sem]) _) (nw_New _) (fun e w21 hp => ?_)
    obtain ⟨g, rfl, hN⟩ := hp
    have HN := hide hN
    clear hN HB2
    have HB25 := hide HN.out.old
    have HB27 : Hid (Below w21.heap.size w21 w21) := Below.refl _ _
    refine ⟨_, rfl, fun a24 hM23 => ?_⟩
    clear hM15
    refine s_val hM23 (.inl rfl) rfl rfl (ev_move (.inr rfl) rfl) (fun a29 hM28 => ?_)
    clear hM23
    refine seg_nil (hK20 _ _ ?_)
    clear hK20 K20 QK20
    have hM30 := hM28.cut2 (t1 := 0) (t2 := 3) rfl rfl
    clear hM28
    refine wp_seq_k fun K31 hK31 => ?_
    refine region_then fun K32 QK32 hK32 => ?_
    refine s_val hM30 (.inl rfl) rfl rfl (ev_move (.inl rfl) rfl) (fun a34 hM33 => ?_)
    clear hM30
    refine s_val hM33 (.inl rfl) rfl rfl (ev_ptrnil rfl rfl (u_ptr (by kernel_rfl)) g_ptr) (fun a36 hM35 => ?_)
    clear hM33
    refine seg_nil (hK32 _ _ ?_)
    clear hK32 K32 QK32
    have hM37 := hM35.cut3 (t1 := 0) (t2 := 3) (t3 := 21) rfl rfl rfl
    clear hM35
    refine wp_cond_false (hM37.ev (t := 21) rfl) ?_
    refine wp_skip ?_
    refine hK31 _ _ ?_
    refine region_then fun K38 QK38 hK38 => ?_
    refine s_val hM37 (.inl rfl) rfl rfl (ev_move (.inl rfl) rfl) (fun a40 hM39 => ?_)
    clear hM37
    refine s_val hM39 (.inl rfl) rfl rfl (ev_len rfl rfl Try.underlying62) (fun a42 hM41 => ?_)
    clear hM39
    refine s_val hM41 (.inl rfl) rfl rfl (ev_min (p := n) (q := 30) rfl rfl rfl) (fun a44 hM43 => ?_)
    clear hM41
    refine s_val hM43 (.inl rfl) rfl rfl (ev_move (.inr rfl) rfl) (fun a46 hM45 => ?_)
    clear hM43
    refine seg_nil (hK38 _ _ ?_)
    clear hK38 K38 QK38
    have hM47 := hM45.cut3 (t1 := 0) (t2 := 3) (t3 := 4) rfl rfl rfl
    clear hM45
    refine wp_seq_k fun K48 hK48 => ?_
    obtain ⟨cc, hcc⟩ : ∃ q, q = min n 30 := ⟨_, rfl⟩
    rw [← hcc] at hM47
    have hc30 : cc ≤ 30 := by omega
    have hcn : cc ≤ n := by omega
    clear hcc
    refine region_then fun K49 QK49 hK49 => ?_
    refine s_val hM47 (.inl rfl) rfl rfl (ev_move (.inr rfl) rfl) (fun a51 hM50 => ?_)
    clear hM47
    refine seg_nil (hK49 _ _ ?_)
    clear hK49 K49 QK49
    have hM52 := hM50.cut4 (t1 := 0) (t2 := 3) (t3 := 4) (t4 := 5) rfl rfl rfl rfl
    clear hM50
    have HN0 : Hid (NtW w w21 g (KK ((List.range 0).map (xf d)) ((List.range 0).map kb))) := by
      have h := (HN.out.below HB27.out)
      rw [← KK_0] at h
      exact h
    have HJ : Hid (0 ≤ cc) := Nat.zero_le _
    clear HN
    have HN := HN0
    clear HN0
    have hM53 := hM52.cut4 (t1 := 5) (t2 := 0) (t3 := 3) (t4 := 4) rfl rfl rfl rfl
    clear hM52
    refine wp_block ?_
    refine wp_loop_ghost (fun m a w' => ∃ (j : Nat), m = cc - j ∧ Frm a 169 [(5, .int .i64 (j : Int)), (0, .slice A n c), (3, .pointer (some ⟨g, 0, none⟩)), (4, .int .i64 ((cc : Int)))] ∧ Hid (Below w.heap.size w w') ∧ Hid (NtW w w' g (KK ((List.range j).map (xf d)) ((List.range j).map kb))) ∧ Hid (j ≤ cc)) cc ⟨0,  by omega, hM53, HB25, HN, HJ⟩ ?_
    clear HB25 HB27 hM53 HN HJ
    rintro m58 a55 w54 ⟨j, rfl, hM56, HB57, HN, HJ⟩
    have HB60 : Hid (Below w54.heap.size w54 w54) := Below.refl _ _
    refine wp_seq_k fun K61 hK61 => ?_
    by_cases hlt : j < cc
    case pos =>
      have HRj := hide (((HF.out.below HB57.out)).row (HAE.out (by omega)) (show j < n by omega))
      have HSj := hide (((HF.out.below HB57.out)).all j (by omega)).sl
      have hdj := HL.out j (by omega) (by omega)
      refine region_then fun K62 QK62 hK62 => ?_
      refine s_val hM56 (.inl rfl) rfl rfl (ev_move (.inl rfl) rfl) (fun a64 hM63 => ?_)
      clear hM56
      refine s_val hM63 (.inl rfl) rfl rfl (ev_move (.inl rfl) rfl) (fun a66 hM65 => ?_)
      clear hM63
      refine s_val hM65 (.inl rfl) rfl rfl (ev_bin rfl rfl rfl g_int (b_lss (b := true) (by rw [decide_eq_true_eq]; omega))) (fun a68 hM67 => ?_)
      clear hM65
      refine seg_nil (hK62 _ _ ?_)
      clear hK62 K62 QK62
      have hM69 := hM67.cut5 (t1 := 0) (t2 := 3) (t3 := 4) (t4 := 5) (t5 := 27) rfl rfl rfl rfl rfl
      clear hM67
      refine wp_cond_true (hM69.ev (t := 27) rfl) ?_
      refine wp_skip ?_
      refine hK61 _ _ ?_
      refine wp_seq_k fun K70 hK70 => ?_
      refine wp_block ?_
      refine region_then fun K71 QK71 hK71 => ?_
      refine s_val hM69 (.inl rfl) rfl rfl (ev_move (.inl rfl) rfl) (fun a73 hM72 => ?_)
      clear hM69
      refine s_val hM72 (.inl rfl) rfl rfl (ev_move (.inl rfl) rfl) (fun a75 hM74 => ?_)
      clear hM72
      refine s_val hM74 (.inl rfl) rfl rfl (ev_conv8j (j := j) rfl rfl Try.underlying3 Try.underlying5) (fun a77 hM76 => ?_)
      clear hM74
      refine s_alloc (e := 5) hM76 (.inl rfl) rfl rfl (V := fun g => .slice (some ⟨g, 0, none⟩) 1 1) (ev_bsl hM76 rfl rfl (fun w => by kernel_rfl)) (fun g78 a84 w79 hM83 KB82_ hb80 hg81 => ?_)
      have KB82 := hide KB82_
      clear hM76 KB82_
      have lo85 := hide (Nat.le_trans HB57.out.size hg81)
      have lo86 := hide (Nat.le_trans HB60.out.size hg81)
      clear hg81
      have HB87 := hide (below_then HB57.out hb80)
      have HB88 := hide (below_then HB60.out hb80)
      clear hb80 HB57 HB60
      have HB90 : Hid (Below w79.heap.size w79 w79) := Below.refl _ _
      refine s_val hM83 (.inl rfl) rfl rfl (ev_move (.inl rfl) rfl) (fun a92 hM91 => ?_)
      clear hM83
      refine s_val hM91 (.inl rfl) rfl rfl (ev_move (.inl rfl) rfl) (fun a94 hM93 => ?_)
      clear hM91
      refine s_val hM93 (.inl rfl) rfl rfl (ev_idx (b := ba) (off := oa) (k := j) (sz := 5) (p := oa + j * 5) rfl (by rw [← HAE.out (by omega)]; rfl) rfl Try.underlying62 (by kernel_rfl) (by omega) rfl) (fun a96 hM95 => ?_)
      clear hM93
      refine s_val hM95 (.inl rfl) rfl rfl (ev_fldw (m := oa + j * 5 + 4) rfl rfl (fun w => by simp [go_sem])) (fun a98 hM97 => ?_)
      clear hM95
      refine s_val hM97 (.inl rfl) rfl rfl (ev_load1 (v := .slice ((d j).A) ((d j).n) ((d j).c)) rfl rfl ((HRj.out.below HB88.out).at_ (m := 4) rfl) (isAgg_no Try.underlying28 rfl)) (fun a100 hM99 => ?_)
      clear hM97
      obtain ⟨i0, hi0, hz0, hz1, hz2⟩ := info_parts Try.infoByte
      have hk := (KB82.out.on HB90.out)
      have hO := own_of_blk (base := w54.heap.size) (n := 1) (size := 1) hk lo86.out rfl (by omega)
      refine s_append_any hM99 (.inl rfl) rfl rfl rfl w54.heap.size 5 i0 (.int .u8 0) 1 1 Try.underlying28 hi0 hz0 hz1 hz2 rfl (by decide) 1 [.int .u8 ((UInt8.ofNat j).toNat : Int)] rfl hO (d j).A (d j).n (d j).c (bytes8 (d j).bs) rfl (HSj.out.below HB88.out) (bytes8_one _) (by unfold maxLen; omega) (by omega) HB88.out.size (fun V2 a102 w103 hM101 ho hgr => ?_)
      obtain ⟨A2, c2, rfl⟩ := own_slice ho
      have HAP : Hid (Sl w103 1 A2 (1 + (d j).n) (bytes8 (xf d j))) := Sl.of_own ho
      have HB104 := hide (below_grown_at HB87.out hgr HB87.out.size lo85.out)
      have HB105 := hide (below_grown_at HB88.out hgr HB88.out.size lo86.out)
      clear hO hk ho hgr hi0 hz0 hz1 hz2 i0 hM99 HB87 HB88 HB90 KB82
      have HB107 : Hid (Below w103.heap.size w103 w103) := Below.refl _ _
      refine s_call hM101 (.inl rfl) rfl rfl (f := 43) (args := #[.pointer (some ⟨g, 0, none⟩), .int .i64 1, .int .i64 2, .slice A2 ((1 + (d j).n)) c2]) (ev_call hM101 rfl rfl rfl (fun w => by simp [go_sem]) _) (nw_Put_ok (x := xf d j) 1 2 (HN.out.below HB105.out) (by decide) (by rw [KK_12, List.length_map, List.length_range]; omega) (HAP.out.below HB107.out) (by omega)) (fun e w108 hp => ?_)
      obtain ⟨rfl, hN⟩ := hp
      have HN_ : Hid (NtW w w108 g (KK ((List.range (j + 1)).map (xf d)) ((List.range j).map kb))) := by
        have h := hN
        rw [KK_12, KK_u12, ← rmap_succ (xf d)] at h
        exact h
      clear hN HN HB104 HB105 HB107 
      have HN := HN_
      clear HN_
      have HB112 := hide HN.out.old
      have HB114 : Hid (Below w108.heap.size w108 w108) := Below.refl _ _
      clear HAP HRj HSj
      refine ⟨_, rfl, fun a111 hM110 => ?_⟩
      clear hM101
      refine s_call hM110 (.inl rfl) rfl rfl (f := 42) (args := #[.int .i64 0]) (ev_call hM110 rfl rfl rfl (fun w => by simp [go_sem]) _) (law12_num _ _) (fun e w115 hp => ?_)
      obtain ⟨rfl, rfl⟩ := hp
      refine ⟨_, rfl, fun a118 hM117 => ?_⟩
      clear hM110
      refine s_val hM117 (.inl rfl) rfl rfl (ev_bin rfl rfl rfl g_int (b_neq (b := false) (by decide))) (fun a120 hM119 => ?_)
      clear hM117
      refine s_val hM119 (.inl rfl) rfl rfl (ev_move (.inl rfl) rfl) (fun a122 hM121 => ?_)
      clear hM119
      refine s_val hM121 (.inr ⟨_, _, _, rfl, rfl, rfl⟩) rfl rfl (ev_move (.inl rfl) rfl) (fun a124 hM123 => ?_)
      clear hM121
      refine s_val hM123 (.inr ⟨_, _, _, rfl, rfl, rfl⟩) rfl rfl (ev_move (.inl rfl) rfl) (fun a126 hM125 => ?_)
      clear hM123
      refine s_val hM125 (.inr ⟨_, _, _, rfl, rfl, rfl⟩) rfl rfl (ev_conv8j (j := j) rfl rfl Try.underlying3 Try.underlying5) (fun a128 hM127 => ?_)
      clear hM125
      refine s_alloc (e := 5) hM127 (.inr ⟨_, _, _, rfl, rfl, rfl⟩) rfl rfl (V := fun g => .slice (some ⟨g, 0, none⟩) 1 1) (ev_bsl hM127 rfl rfl (fun w => by kernel_rfl)) (fun g129 a135 w130 hM134 KB133_ hb131 hg132 => ?_)
      have KB133 := hide KB133_
      clear hM127 KB133_
      have lo136 := hide (Nat.le_trans HB112.out.size hg132)
      have lo137 := hide (Nat.le_trans HB114.out.size hg132)
      clear hg132
      have HB138 := hide (below_then HB112.out hb131)
      have HB139 := hide (below_then HB114.out hb131)
      clear hb131 HB112 HB114
      have HB141 : Hid (Below w130.heap.size w130 w130) := Below.refl _ _
      refine s_call hM134 (.inr ⟨_, _, _, rfl, rfl, rfl⟩) rfl rfl (f := 43) (args := #[.pointer (some ⟨g, 0, none⟩), .int .i64 2, .int .i64 1, .slice ((some ⟨g129, 0, none⟩)) 1 1]) (ev_call hM134 rfl rfl rfl (fun w => by simp [go_sem]) _) (nw_Put_ok (x := kb j) 2 1 (HN.out.below HB139.out) (by decide) (by rw [KK_21, List.length_map, List.length_range]; omega) (Sl.of_blk (size := 1) (n := 1) (KB133.out.on HB141.out) rfl) (by omega)) (fun e w142 hp => ?_)
      obtain ⟨rfl, hN⟩ := hp
      have HN_ : Hid (NtW w w142 g (KK ((List.range (j + 1)).map (xf d)) ((List.range (j + 1)).map kb))) := by
        have h := hN
        rw [KK_21, KK_u21, ← rmap_succ kb] at h
        exact h
      clear hN HN HB138 HB139 HB141 KB133
      have HN := HN_
      clear HN_
      have HB146 := hide HN.out.old
      have HB148 : Hid (Below w142.heap.size w142 w142) := Below.refl _ _
      refine ⟨_, rfl, fun a145 hM144 => ?_⟩
      clear hM134
      refine s_call hM144 (.inr ⟨_, _, _, rfl, rfl, rfl⟩) rfl rfl (f := 42) (args := #[.int .i64 0]) (ev_call hM144 rfl rfl rfl (fun w => by simp [go_sem]) _) (law12_num _ _) (fun e w149 hp => ?_)
      obtain ⟨rfl, rfl⟩ := hp
      refine ⟨_, rfl, fun a152 hM151 => ?_⟩
      clear hM144
      refine s_val hM151 (.inr ⟨_, _, _, rfl, rfl, rfl⟩) rfl rfl (ev_bin rfl rfl rfl g_int (b_neq (b := false) (by decide))) (fun a154 hM153 => ?_)
      clear hM151
      refine s_val hM153 (.inl rfl) rfl rfl (ev_pick rfl rfl rfl) (fun a156 hM155 => ?_)
      clear hM153
      refine seg_nil (hK71 _ _ ?_)
      clear hK71 K71 QK71
      have hM157 := hM155.cut5 (t1 := 0) (t2 := 3) (t3 := 4) (t4 := 5) (t5 := 51) rfl rfl rfl rfl rfl
      clear hM155
      refine wp_cond_false (hM157.ev (t := 51) rfl) ?_
      refine wp_skip ?_
      refine inb_n ?_
      refine hK70 _ _ ?_
      refine region_last fun K158 QK158 hK158 => ?_
      refine s_val hM157 (.inl rfl) rfl rfl (ev_move (.inl rfl) rfl) (fun a160 hM159 => ?_)
      clear hM157
      refine s_val hM159 (.inl rfl) rfl rfl (ev_bin rfl rfl rfl g_int (b_add (r := ((j + 1 : Nat) : Int)) (by omega) (by omega))) (fun a162 hM161 => ?_)
      clear hM159
      refine s_val hM161 (.inl rfl) rfl rfl (ev_move (.inr rfl) rfl) (fun a164 hM163 => ?_)
      clear hM161
      refine seg_nil (hK158 _ _ ?_)
      clear hK158 K158 QK158
      have hM165 := hM163.cut4 (t1 := 0) (t2 := 3) (t3 := 4) (t4 := 5) rfl rfl rfl rfl
      clear hM163
      have hM166 := hM165.cut4 (t1 := 5) (t2 := 0) (t3 := 3) (t4 := 4) rfl rfl rfl rfl
      clear hM165
      exact ⟨cc - (j + 1), by omega, j + 1, rfl, hM166, HB146, (hide (HN.out.below HB148.out)), (show Hid (j + 1 ≤ cc) from hlt)⟩
    case neg =>
      obtain rfl : cc = j := by have := HJ.out; omega
      clear HJ hlt
      refine region_then fun K167 QK167 hK167 => ?_
      refine s_val hM56 (.inl rfl) rfl rfl (ev_move (.inl rfl) rfl) (fun a169 hM168 => ?_)
      clear hM56
      refine s_val hM168 (.inl rfl) rfl rfl (ev_move (.inl rfl) rfl) (fun a171 hM170 => ?_)
      clear hM168
      refine s_val hM170 (.inl rfl) rfl rfl (ev_bin rfl rfl rfl g_int (b_lss (b := false) (by rw [decide_eq_false_iff_not]; omega))) (fun a173 hM172 => ?_)
      clear hM170
      refine seg_nil (hK167 _ _ ?_)
      clear hK167 K167 QK167
      have hM174 := hM172.cut5 (t1 := 0) (t2 := 3) (t3 := 4) (t4 := 5) (t5 := 27) rfl rfl rfl rfl rfl
      clear hM172
      refine wp_cond_false (hM174.ev (t := 27) rfl) ?_
      refine wp_exit ?_
      repeat (with_reducible refine th_e ?_)
      refine inb_e ?_
      refine hK48 _ _ ?_
      refine wp_seq_k fun K175 hK175 => ?_
      by_cases h0 : 0 < cc
      case pos =>
        refine region_then fun K176 QK176 hK176 => ?_
        refine s_val hM174 (.inl rfl) rfl rfl (ev_move (.inl rfl) rfl) (fun a178 hM177 => ?_)
        clear hM174
        refine s_val hM177 (.inl rfl) rfl rfl (ev_bin rfl rfl rfl g_int (b_gtr (b := true) (by rw [decide_eq_true_eq]; omega))) (fun a180 hM179 => ?_)
        clear hM177
        refine s_val hM179 (.inl rfl) rfl rfl (ev_move (.inl rfl) rfl) (fun a182 hM181 => ?_)
        clear hM179
        refine s_val hM181 (.inr ⟨_, _, _, rfl, rfl, rfl⟩) rfl rfl (ev_move (.inl rfl) rfl) (fun a184 hM183 => ?_)
        clear hM181
        refine s_call hM183 (.inr ⟨_, _, _, rfl, rfl, rfl⟩) rfl rfl (f := 44) (args := #[.pointer (some ⟨g, 0, none⟩), .int .i64 1, .int .i64 2, .int .i64 0]) (ev_call hM183 rfl rfl rfl (fun w => by simp [go_sem]) _) (nw_Double_ok (i := 0) (x := xf d 0) 1 2 (HN.out.below HB60.out) (by rw [KK_12, List.getElem?_map, List.getElem?_range h0]; rfl) (by decide) (by rw [KK_12, List.length_map, List.length_range]; omega)) (fun e w185 hp => ?_)
        obtain ⟨rfl, hN⟩ := hp
        have HN_ : Hid (NtW w w185 g (KK ((L0 cc).map (xf d)) ((List.range cc).map kb))) := by
          have h := hN
          rw [KK_12, KK_u12, L0_map h0] at h
          exact h
        clear hN HN HB57 HB60 
        have HN := HN_
        clear HN_
        have HB189 := hide HN.out.old
        have HB191 : Hid (Below w185.heap.size w185 w185) := Below.refl _ _
        refine ⟨_, rfl, fun a188 hM187 => ?_⟩
        clear hM183
        refine s_call hM187 (.inr ⟨_, _, _, rfl, rfl, rfl⟩) rfl rfl (f := 42) (args := #[.int .i64 0]) (ev_call hM187 rfl rfl rfl (fun w => by simp [go_sem]) _) (law12_num _ _) (fun e w192 hp => ?_)
        obtain ⟨rfl, rfl⟩ := hp
        refine ⟨_, rfl, fun a195 hM194 => ?_⟩
        clear hM187
        refine s_val hM194 (.inr ⟨_, _, _, rfl, rfl, rfl⟩) rfl rfl (ev_bin rfl rfl rfl g_int (b_neq (b := false) (by decide))) (fun a197 hM196 => ?_)
        clear hM194
        refine s_val hM196 (.inl rfl) rfl rfl (ev_pick rfl rfl rfl) (fun a199 hM198 => ?_)
        clear hM196
        refine seg_nil (hK176 _ _ ?_)
        clear hK176 K176 QK176
        have hM200 := hM198.cut4 (t1 := 0) (t2 := 3) (t3 := 4) (t4 := 59) rfl rfl rfl rfl
        clear hM198
        refine wp_cond_false (hM200.ev (t := 59) rfl) ?_
        refine wp_skip ?_
        refine hK175 _ _ ?_
        refine region_then fun K201 QK201 hK201 => ?_
        refine s_alloc (e := 70) hM200 (.inl rfl) rfl rfl (V := fun g => .pointer (some ⟨g, 0, none⟩)) (ev_alloc rfl alloc_40) (fun g202 a208 w203 hM207 KB206_ hb204 hg205 => ?_)
        have KB206 := hide KB206_
        clear hM200 KB206_
        have lo209 := hide (Nat.le_trans HB189.out.size hg205)
        have lo210 := hide (Nat.le_trans HB191.out.size hg205)
        clear hg205
        have HB211 := hide (below_then HB189.out hb204)
        have HB212 := hide (below_then HB191.out hb204)
        clear hb204 HB189 HB191
        have HB214 : Hid (Below w203.heap.size w203 w203) := Below.refl _ _
        have HZ : Hid (NtZ w w203 g (KK ((L0 cc).map (xf d)) ((List.range cc).map kb)) g202 70 (seenC cc (L0 cc))) := by
          rw [seenC_0]
          exact NtZ.mk_ HN.out HB212.out (KB206.out.on HB214.out) lo210.out
        clear HN KB206
        have HB216 : Hid (Below w203.heap.size w203 w203) := Below.refl _ _
        refine seg_nil (hK201 _ _ ?_)
        clear hK201 K201 QK201
        have hM217 := hM207.cut4 (t1 := 0) (t2 := 3) (t3 := 4) (t4 := 6) rfl rfl rfl rfl
        clear hM207
        refine wp_seq_k fun K218 hK218 => ?_
        refine region_then fun K219 QK219 hK219 => ?_
        refine s_val hM217 (.inl rfl) rfl rfl (ev_move (.inr rfl) rfl) (fun a221 hM220 => ?_)
        clear hM217
        refine seg_nil (hK219 _ _ ?_)
        clear hK219 K219 QK219
        have hM222 := hM220.cut5 (t1 := 0) (t2 := 3) (t3 := 4) (t4 := 6) (t5 := 7) rfl rfl rfl rfl rfl
        clear hM220
        have hM223 := hM222.cut5 (t1 := 7) (t2 := 0) (t3 := 3) (t4 := 4) (t5 := 6) rfl rfl rfl rfl rfl
        clear hM222
        refine wp_block ?_
        refine wp_loop_ghost (fun m a w' => ∃ (j : Nat) (L : List Nat), m = (cc + 1) - j ∧ Frm a 169 [(7, .int .i64 (j : Int)), (0, .slice A n c), (3, .pointer (some ⟨g, 0, none⟩)), (4, .int .i64 ((cc : Int))), (6, .pointer (some ⟨g202, 0, none⟩))] ∧ Hid (Below w.heap.size w w') ∧ Hid (NtZ w w' g (KK (L.map (xf d)) ((List.range cc).map kb)) g202 70 (seenC cc L)) ∧ SubK cc L j) (cc + 1) ⟨0, L0 cc,  by omega, hM223, HB211, HZ, SubK.first⟩ ?_
        clear HB211 HB212 HB214 HB216 hM223 HZ
        rintro m228 a225 w224 ⟨j, L, rfl, hM226, HB227, HZ, hSK⟩
        have HB230 : Hid (Below w224.heap.size w224 w224) := Below.refl _ _
        refine wp_seq_k fun K231 hK231 => ?_
        by_cases hL : 0 < L.length
        case pos =>
          have h0 : 0 < cc := by
            obtain ⟨e, he⟩ := List.exists_mem_of_length_pos hL
            have := hSK.lt he
            omega
          have hlen := hSK.len
          rw [L0_len h0] at hlen
          have hjm : j % cc < cc := Nat.mod_lt _ h0
          have hkk : wiF (d (j % cc)).z3 L.length < L.length := wiF_lt hL
          obtain ⟨e, hek⟩ : ∃ e, L[wiF (d (j % cc)).z3 L.length]? = some e := ⟨_, List.getElem?_eq_getElem hkk⟩
          have hec : e < cc := hSK.lt (mem_of_at hek)
          have hsn : sN cc L e ≤ cc + 1 := sN_le
          have HRk := hide (((HF.out.below HB227.out)).row (HAE.out (by omega)) (show (j % cc) < n by omega))
          have HSk := hide (((HF.out.below HB227.out)).all ((j % cc)) (by omega)).sl
          refine region_then fun K232 QK232 hK232 => ?_
          refine s_val hM226 (.inl rfl) rfl rfl (ev_move (.inl rfl) rfl) (fun a234 hM233 => ?_)
          clear hM226
          refine s_call hM233 (.inl rfl) rfl rfl (f := 45) (args := #[.pointer (some ⟨g, 0, none⟩), .int .i64 1, .int .i64 2]) (ev_call hM233 rfl rfl rfl (fun w => by simp [go_sem]) _) (nw_CountK 1 2 ((HZ.out.below HB230.out)).nt (k := L.length) (by rw [KK_12, List.length_map])) (fun e w235 hp => ?_)
          obtain ⟨rfl, rfl⟩ := hp
          refine ⟨_, rfl, fun a238 hM237 => ?_⟩
          clear hM233
          refine s_val hM237 (.inl rfl) rfl rfl (ev_bin rfl rfl rfl g_int (b_gtr (b := true) (by rw [decide_eq_true_eq]; omega))) (fun a240 hM239 => ?_)
          clear hM237
          refine seg_nil (hK232 _ _ ?_)
          clear hK232 K232 QK232
          have hM241 := hM239.cut6 (t1 := 0) (t2 := 3) (t3 := 4) (t4 := 6) (t5 := 7) (t6 := 62) rfl rfl rfl rfl rfl rfl
          clear hM239
          refine wp_cond_true (hM241.ev (t := 62) rfl) ?_
          refine wp_skip ?_
          refine hK231 _ _ ?_
          refine wp_seq_k fun K242 hK242 => ?_
          refine wp_block ?_
          refine q_open (by kernel_rfl) (by kernel_rfl) fun K243 hK243 => ?_
          refine q_val hM241 (.inl rfl) rfl rfl (fun m => (ev_move (.inl rfl) rfl)) (fun a245 hM244 => ?_)
          clear hM241
          refine q_val hM244 (.inl rfl) rfl rfl (fun m => (ev_move (.inl rfl) rfl)) (fun a247 hM246 => ?_)
          clear hM244
          refine q_val hM246 (.inl rfl) rfl rfl (fun m => (ev_move (.inl rfl) rfl)) (fun a249 hM248 => ?_)
          clear hM246
          refine q_val hM248 (.inl rfl) rfl rfl (fun m => (ev_bin rfl rfl rfl g_int (b_rem (a := j) (b := cc) (r := j % cc) rfl rfl h0 rfl (by omega)))) (fun a251 hM250 => ?_)
          clear hM248
          refine q_val hM250 (.inl rfl) rfl rfl (fun m => (ev_idx (b := ba) (off := oa) (k := (j % cc)) (sz := 5) (p := oa + ((j % cc)) * 5) rfl (by rw [← HAE.out (by omega)]; rfl) rfl Try.underlying62 (by kernel_rfl) (by omega) rfl)) (fun a253 hM252 => ?_)
          clear hM250
          refine q_val hM252 (.inl rfl) rfl rfl (fun m => (ev_fldw (m := oa + ((j % cc)) * 5 + 3) rfl rfl (fun w => by simp [go_sem]))) (fun a255 hM254 => ?_)
          clear hM252
          refine q_val hM254 (.inl rfl) rfl rfl (fun m => (ev_load1 (v := .int .i64 ((d ((j % cc))).z3)) rfl rfl (((HRk.out.below HB230.out).below (Wd.below m)).at_ (m := 3) rfl) (isAgg_no Try.underlying3 rfl))) (fun a257 hM256 => ?_)
          clear hM254
          refine q_val hM256 (.inl rfl) rfl rfl (fun m => (ev_move (.inl rfl) rfl)) (fun a259 hM258 => ?_)
          clear hM256
          refine q_call hM258 (.inl rfl) rfl rfl (f := 45) (args := #[.pointer (some ⟨g, 0, none⟩), .int .i64 1, .int .i64 2]) (v := .int .i64 ((L.length : Int))) (ev_call hM258 rfl rfl rfl (fun w => by simp [go_sem])) (fun m => wd_same (nw_CountK 1 2 (((HZ.out.below HB230.out).below (Wd.below m))).nt (k := L.length) (by rw [KK_12, List.length_map]))) (fun a261 hM260 => ?_)
          clear hM258
          refine q_call hM260 (.inl rfl) rfl rfl (f := 18) (args := #[.int .i64 ((d ((j % cc))).z3), .int .i64 ((L.length : Int))]) (v := .int .i64 ((wiF (d (j % cc)).z3 L.length : Int))) (ev_call hM260 rfl rfl rfl (fun w => by simp [go_sem])) (fun m => wd_same (law0_WithinF _ L.length _ hL (by omega))) (fun a263 hM262 => ?_)
          clear hM260
          refine q_val hM262 (.inl rfl) rfl rfl (fun m => (ev_move (.inr rfl) rfl)) (fun a265 hM264 => ?_)
          clear hM262
          refine wpQuiet_nil (hK243 _ fun w266 hb267 => ?_)
          clear hK243 K243
          have HB268 := hide (below_then HB227.out hb267)
          have HB269 := hide (below_then HB230.out hb267)
          clear hb267 HB227 HB230
          have hM270 := hM264.cut6 (t1 := 0) (t2 := 3) (t3 := 4) (t4 := 6) (t5 := 7) (t6 := 8) rfl rfl rfl rfl rfl rfl
          clear hM264
          refine region_then fun K271 QK271 hK271 => ?_
          refine s_val hM270 (.inl rfl) rfl rfl (ev_move (.inl rfl) rfl) (fun a273 hM272 => ?_)
          clear hM270
          refine s_val hM272 (.inl rfl) rfl rfl (ev_move (.inl rfl) rfl) (fun a275 hM274 => ?_)
          clear hM272
          refine s_call hM274 (.inl rfl) rfl rfl (f := 46) (args := #[.pointer (some ⟨g, 0, none⟩), .int .i64 1, .int .i64 2, .int .i64 ((wiF (d (j % cc)).z3 L.length : Int))]) (ev_call hM274 rfl rfl rfl (fun w => by simp [go_sem]) _) (nz_Take_ok (i := (wiF (d (j % cc)).z3 L.length)) (x := xf d e) 1 2 (HZ.out.below HB269.out) (by decide) (by rw [KK_12, List.getElem?_map, hek]; rfl)) (fun e w276 hp => ?_)
          obtain ⟨v1, rfl, ho, hZ⟩ := hp
          obtain ⟨g1, c1, cur1, rfl, _, hk1, hs1, hn1, hc1, hat1⟩ := own_open ho (by rw [xf_len]; omega)
          have HV := hide (Sl.of_own ho)
          have HC1 : Hid (Rng w276 g1 0 #[.int .u8 (e : Int)]) := ⟨hk1.lt, fun q u hq => by
            have hq0 : q = 0 := by have := (Array.getElem?_eq_some_iff.1 hq).1; simpa using this
            subst hq0
            obtain rfl := Option.some.inj hq
            have := hk1.at_ (hat1 0 _ (show (bytes8 (xf d e))[0]? = some (.int .u8 ((UInt8.ofNat e).toNat : Int)) from rfl))
            rw [u8_of (by omega)] at this
            exact this⟩
          have hxl : (xf d e).length = (d e).bs.length + 1 := rfl
          clear ho hk1 hat1 hs1 HRk HSk
          have HZ_ : Hid (NtZ w w276 g (KK ((L.eraseIdx (wiF (d (j % cc)).z3 L.length)).map (xf d)) ((List.range cc).map kb)) g202 70 (seenC cc L)) := by
            have h := hZ
            rw [KK_12, KK_u12, ← ChangeMaps.map_eraseIdx] at h
            exact h
          clear hZ HZ HB268 HB269 
          have HZ := HZ_
          clear HZ_
          have HB280 := hide HZ.out.old
          have HB282 : Hid (Below w276.heap.size w276 w276) := Below.refl _ _
          have HRe := hide (((HF.out.below HB280.out)).row (HAE.out (by omega)) (show e < n by omega))
          have HSe := hide (((HF.out.below HB280.out)).all e (by omega)).sl
          have hde := HL.out e (by omega) (by omega)
          have hbe : (d e).bs.length = (d e).n := (HSe.out.below HB282.out).blen
          refine ⟨_, rfl, fun a279 hM278 => ?_⟩
          clear hM274
          refine s_val hM278 (.inl rfl) rfl rfl (ev_move (.inl rfl) rfl) (fun a284 hM283 => ?_)
          clear hM278
          refine s_val hM283 (.inl rfl) rfl rfl (ev_ext (v := .slice ((some ⟨g1, 0, none⟩)) ((xf d e).length) c1) rfl rfl rfl) (fun a286 hM285 => ?_)
          clear hM283
          refine s_val hM285 (.inl rfl) rfl rfl (ev_ext (v := .int .i64 0) rfl rfl rfl) (fun a288 hM287 => ?_)
          clear hM285
          refine s_val hM287 (.inl rfl) rfl rfl (ev_move (.inr rfl) rfl) (fun a290 hM289 => ?_)
          clear hM287
          refine s_val hM289 (.inl rfl) rfl rfl (ev_move (.inr rfl) rfl) (fun a292 hM291 => ?_)
          clear hM289
          refine seg_nil (hK271 _ _ ?_)
          clear hK271 K271 QK271
          have hM293 := hM291.cut7 (t1 := 0) (t2 := 3) (t3 := 4) (t4 := 6) (t5 := 7) (t6 := 9) (t7 := 10) rfl rfl rfl rfl rfl rfl rfl
          clear hM291
          refine wp_seq_k fun K294 hK294 => ?_
          refine q_open (by kernel_rfl) (by kernel_rfl) fun K295 hK295 => ?_
          refine q_val hM293 (.inl rfl) rfl rfl (fun m => (ev_move (.inl rfl) rfl)) (fun a297 hM296 => ?_)
          clear hM293
          refine q_call hM296 (.inl rfl) rfl rfl (f := 42) (args := #[.int .i64 0]) (v := .int .i64 0) (ev_call hM296 rfl rfl rfl (fun w => by simp [go_sem])) (fun m => wd_same (law12_num _ _)) (fun a299 hM298 => ?_)
          clear hM296
          refine q_val hM298 (.inl rfl) rfl rfl (fun m => (ev_bin rfl rfl rfl g_int (b_neq (b := false) (by decide)))) (fun a301 hM300 => ?_)
          clear hM298
          refine q_val hM300 (.inl rfl) rfl rfl (fun m => (ev_move (.inl rfl) rfl)) (fun a303 hM302 => ?_)
          clear hM300
          refine q_val hM302 (.inr ⟨_, _, _, rfl, rfl, rfl⟩) rfl rfl (fun m => (ev_move (.inl rfl) rfl)) (fun a305 hM304 => ?_)
          clear hM302
          refine q_val hM304 (.inr ⟨_, _, _, rfl, rfl, rfl⟩) rfl rfl (fun m => (ev_len rfl rfl Try.underlying28)) (fun a307 hM306 => ?_)
          clear hM304
          refine q_val hM306 (.inr ⟨_, _, _, rfl, rfl, rfl⟩) rfl rfl (fun m => (ev_bin rfl rfl rfl g_int (b_eql (b := false) (by rw [decide_eq_false_iff_not]; omega)))) (fun a309 hM308 => ?_)
          clear hM306
          refine q_val hM308 (.inl rfl) rfl rfl (fun m => (ev_pick rfl rfl rfl)) (fun a311 hM310 => ?_)
          clear hM308
          refine q_val hM310 (.inl rfl) rfl rfl (fun m => (ev_move (.inl rfl) rfl)) (fun a313 hM312 => ?_)
          clear hM310
          refine q_val hM312 (.inr ⟨_, _, _, rfl, rfl, rfl⟩) rfl rfl (fun m => (ev_move (.inl rfl) rfl)) (fun a315 hM314 => ?_)
          clear hM312
          refine q_val hM314 (.inr ⟨_, _, _, rfl, rfl, rfl⟩) rfl rfl (fun m => (ev_idx (b := g1) (k := 0) (sz := 1) (p := 0) rfl rfl rfl Try.underlying28 (by kernel_rfl) (by omega) (by first | rfl | omega))) (fun a317 hM316 => ?_)
          clear hM314
          refine q_val hM316 (.inr ⟨_, _, _, rfl, rfl, rfl⟩) rfl rfl (fun m => (ev_load1 (v := .int .u8 (e : Int)) rfl rfl (((HC1.out.below HB282.out).below (Wd.below m)).at_ (m := 0) rfl) (isAgg_no Try.underlying5 rfl))) (fun a319 hM318 => ?_)
          clear hM316
          refine q_val hM318 (.inr ⟨_, _, _, rfl, rfl, rfl⟩) rfl rfl (fun m => (ev_conv81 (z := e) rfl rfl Try.underlying5 Try.underlying3 (by omega))) (fun a321 hM320 => ?_)
          clear hM318
          refine q_val hM320 (.inr ⟨_, _, _, rfl, rfl, rfl⟩) rfl rfl (fun m => (ev_move (.inl rfl) rfl)) (fun a323 hM322 => ?_)
          clear hM320
          refine q_val hM322 (.inr ⟨_, _, _, rfl, rfl, rfl⟩) rfl rfl (fun m => (ev_bin rfl rfl rfl g_int (b_geq (b := false) (by rw [decide_eq_false_iff_not]; omega)))) (fun a325 hM324 => ?_)
          clear hM322
          refine q_val hM324 (.inl rfl) rfl rfl (fun m => (ev_pick rfl rfl rfl)) (fun a327 hM326 => ?_)
          clear hM324
          refine q_val hM326 (.inl rfl) rfl rfl (fun m => (ev_move (.inl rfl) rfl)) (fun a329 hM328 => ?_)
          clear hM326
          refine q_val hM328 (.inr ⟨_, _, _, rfl, rfl, rfl⟩) rfl rfl (fun m => (ev_move (.inl rfl) rfl)) (fun a331 hM330 => ?_)
          clear hM328
          refine q_val hM330 (.inr ⟨_, _, _, rfl, rfl, rfl⟩) rfl rfl (fun m => (ev_slice_l (k := 1) rfl rfl rfl (by kernel_rfl) (fun w => by kernel_rfl) (by omega))) (fun a333 hM332 => ?_)
          clear hM330
          refine q_val hM332 (.inr ⟨_, _, _, rfl, rfl, rfl⟩) rfl rfl (fun m => (ev_move (.inl rfl) rfl)) (fun a335 hM334 => ?_)
          clear hM332
          refine q_val hM334 (.inr ⟨_, _, _, rfl, rfl, rfl⟩) rfl rfl (fun m => (ev_move (.inl rfl) rfl)) (fun a337 hM336 => ?_)
          clear hM334
          refine q_val hM336 (.inr ⟨_, _, _, rfl, rfl, rfl⟩) rfl rfl (fun m => (ev_idx (b := g1) (k := 0) (sz := 1) (p := 0) rfl rfl rfl Try.underlying28 (by kernel_rfl) (by omega) (by first | rfl | omega))) (fun a339 hM338 => ?_)
          clear hM336
          refine q_val hM338 (.inr ⟨_, _, _, rfl, rfl, rfl⟩) rfl rfl (fun m => (ev_load1 (v := .int .u8 (e : Int)) rfl rfl (((HC1.out.below HB282.out).below (Wd.below m)).at_ (m := 0) rfl) (isAgg_no Try.underlying5 rfl))) (fun a341 hM340 => ?_)
          clear hM338
          refine q_val hM340 (.inr ⟨_, _, _, rfl, rfl, rfl⟩) rfl rfl (fun m => (ev_idxk (b := ba) (off := oa) (k := e) (sz := 5) (p := oa + e * 5) rfl (by rw [← HAE.out (by omega)]; rfl) rfl Try.underlying62 (by kernel_rfl) (by omega) rfl)) (fun a343 hM342 => ?_)
          clear hM340
          refine q_val hM342 (.inr ⟨_, _, _, rfl, rfl, rfl⟩) rfl rfl (fun m => (ev_fldw (m := oa + e * 5 + 4) rfl rfl (fun w => by simp [go_sem]))) (fun a345 hM344 => ?_)
          clear hM342
          refine q_val hM344 (.inr ⟨_, _, _, rfl, rfl, rfl⟩) rfl rfl (fun m => (ev_load1 (v := .slice ((d e).A) ((d e).n) ((d e).c)) rfl rfl (((HRe.out.below HB282.out).below (Wd.below m)).at_ (m := 4) rfl) (isAgg_no Try.underlying28 rfl))) (fun a347 hM346 => ?_)
          clear hM344
          refine q_call hM346 (.inr ⟨_, _, _, rfl, rfl, rfl⟩) rfl rfl (f := 26) (args := #[.slice ((dropA (some ⟨g1, 0, none⟩) c1 1)) (((xf d e).length - 1)) ((c1 - 1)), .slice ((d e).A) ((d e).n) ((d e).c)]) (v := .bool true) (ev_call hM346 rfl rfl rfl (fun w => by simp [go_sem])) (fun m => wd_call (eqBytes_b (xs := (d e).bs) (ys := (d e).bs) _ (Sl.dropb (W := xf d e) ((HV.out.below HB282.out).below (Wd.below m)) (by omega) hn1) (by omega) ((HSe.out.below HB282.out).below (Wd.below m)) (by omega) (r := true) (beq_self_eq_true (d e).bs))) (fun a349 hM348 => ?_)
          clear hM346
          refine q_val hM348 (.inr ⟨_, _, _, rfl, rfl, rfl⟩) rfl rfl (fun m => (ev_not rfl rfl rfl)) (fun a351 hM350 => ?_)
          clear hM348
          refine q_val hM350 (.inl rfl) rfl rfl (fun m => (ev_pick rfl rfl rfl)) (fun a353 hM352 => ?_)
          clear hM350
          refine q_val hM352 (.inl rfl) rfl rfl (fun m => (ev_move (.inl rfl) rfl)) (fun a355 hM354 => ?_)
          clear hM352
          refine q_val hM354 (.inr ⟨_, _, _, rfl, rfl, rfl⟩) rfl rfl (fun m => (ev_move (.inl rfl) rfl)) (fun a357 hM356 => ?_)
          clear hM354
          refine q_val hM356 (.inr ⟨_, _, _, rfl, rfl, rfl⟩) rfl rfl (fun m => (ev_move (.inl rfl) rfl)) (fun a359 hM358 => ?_)
          clear hM356
          refine q_val hM358 (.inr ⟨_, _, _, rfl, rfl, rfl⟩) rfl rfl (fun m => (ev_bin rfl rfl rfl g_int (b_mul (r := ((2 * cc : Nat) : Int)) (by omega) (by omega)))) (fun a361 hM360 => ?_)
          clear hM358
          refine q_val hM360 (.inr ⟨_, _, _, rfl, rfl, rfl⟩) rfl rfl (fun m => (ev_bin rfl rfl rfl g_int (b_gtr (b := false) (by rw [decide_eq_false_iff_not]; omega)))) (fun a363 hM362 => ?_)
          clear hM360
          refine q_val hM362 (.inl rfl) rfl rfl (fun m => (ev_pick rfl rfl rfl)) (fun a365 hM364 => ?_)
          clear hM362
          refine wpQuiet_nil (hK295 _ fun w366 hb367 => ?_)
          clear hK295 K295
          have HB368 := hide (below_then HB280.out hb367)
          have HB369 := hide (below_then HB282.out hb367)
          clear hb367 HB280 HB282
          have hM370 := hM364.cut7 (t1 := 0) (t2 := 3) (t3 := 4) (t4 := 6) (t5 := 7) (t6 := 9) (t7 := 115) rfl rfl rfl rfl rfl rfl rfl
          clear hM364
          refine wp_cond_false (hM370.ev (t := 115) rfl) ?_
          refine wp_skip ?_
          refine hK294 _ _ ?_
          refine region_last fun K371 QK371 hK371 => ?_
          refine s_val hM370 (.inl rfl) rfl rfl (ev_move (.inl rfl) rfl) (fun a373 hM372 => ?_)
          clear hM370
          refine s_val hM372 (.inl rfl) rfl rfl (ev_idx (b := g1) (k := 0) (sz := 1) (p := 0) rfl rfl rfl Try.underlying28 (by kernel_rfl) (by omega) (by first | rfl | omega)) (fun a375 hM374 => ?_)
          clear hM372
          refine s_val hM374 (.inl rfl) rfl rfl (ev_load1 (v := .int .u8 (e : Int)) rfl rfl ((HC1.out.below HB369.out).at_ (m := 0) rfl) (isAgg_no Try.underlying5 rfl)) (fun a377 hM376 => ?_)
          clear hM374
          refine s_val hM376 (.inl rfl) rfl rfl (ev_idxa (b := g202) (off := 0) (m := 40) (k := e) (sz := 1) (p := e) rfl rfl rfl Try.underlying70 (by kernel_rfl) (by omega) (by omega)) (fun a379 hM378 => ?_)
          clear hM376
          refine s_val hM378 (.inl rfl) rfl rfl (ev_load1 (v := .int .i64 (sN cc L e : Int)) rfl rfl (((HZ.out.below HB369.out)).blk.at_ (seenC_at (by omega))) (isAgg_no Try.underlying3 rfl)) (fun a381 hM380 => ?_)
          clear hM378
          refine s_val hM380 (.inl rfl) rfl rfl (ev_bin rfl rfl rfl g_int (b_add (r := ((sN cc L e + 1 : Nat) : Int)) (by omega) (by omega))) (fun a383 hM382 => ?_)
          clear hM380
          refine s_val hM382 (.inl rfl) rfl rfl (ev_idxa (b := g202) (off := 0) (m := 40) (k := e) (sz := 1) (p := e) rfl rfl rfl Try.underlying70 (by kernel_rfl) (by omega) (by omega)) (fun a385 hM384 => ?_)
          clear hM382
          have hz := (HZ.out.below HB369.out)
          refine s_put (v := .int .i64 ((sN cc L e + 1 : Nat) : Int)) hM384 rfl rfl rfl rfl rfl hz.blk (by simp only [seenC, Array.size_ofFn]; omega) (st_int Try.underlying3 (by kernel_rfl)) (fun w386 kd hg => ?_)
          rw [seenC_set hSK hek] at kd
          have HZ_ := hide (hz.put kd hg)
          clear hz kd hg HZ HV HC1 HRe HSe HB368 HB369
          have HZ := HZ_
          clear HZ_
          have HB387 := hide HZ.out.old
          have HB389 : Hid (Below w386.heap.size w386 w386) := Below.refl _ _
          refine seg_nil (hK371 _ _ ?_)
          clear hK371 K371 QK371
          have hM390 := hM384.cut5 (t1 := 0) (t2 := 3) (t3 := 4) (t4 := 6) (t5 := 7) rfl rfl rfl rfl rfl
          clear hM384
          refine inb_n ?_
          refine hK242 _ _ ?_
          refine region_last fun K391 QK391 hK391 => ?_
          refine s_val hM390 (.inl rfl) rfl rfl (ev_move (.inl rfl) rfl) (fun a393 hM392 => ?_)
          clear hM390
          refine s_val hM392 (.inl rfl) rfl rfl (ev_bin rfl rfl rfl g_int (b_add (r := ((j + 1 : Nat) : Int)) (by omega) (by omega))) (fun a395 hM394 => ?_)
          clear hM392
          refine s_val hM394 (.inl rfl) rfl rfl (ev_move (.inr rfl) rfl) (fun a397 hM396 => ?_)
          clear hM394
          refine seg_nil (hK391 _ _ ?_)
          clear hK391 K391 QK391
          have hM398 := hM396.cut5 (t1 := 0) (t2 := 3) (t3 := 4) (t4 := 6) (t5 := 7) rfl rfl rfl rfl rfl
          clear hM396
          have hM399 := hM398.cut5 (t1 := 7) (t2 := 0) (t3 := 3) (t4 := 4) (t5 := 6) rfl rfl rfl rfl rfl
          clear hM398
          exact ⟨(cc + 1) - (j + 1), by omega, j + 1, (L.eraseIdx (wiF (d (j % cc)).z3 L.length)), rfl, hM399, HB387, (hide (HZ.out.below HB389.out)), hSK.next hek⟩
        case neg =>
          refine region_then fun K400 QK400 hK400 => ?_
          refine s_val hM226 (.inl rfl) rfl rfl (ev_move (.inl rfl) rfl) (fun a402 hM401 => ?_)
          clear hM226
          refine s_call hM401 (.inl rfl) rfl rfl (f := 45) (args := #[.pointer (some ⟨g, 0, none⟩), .int .i64 1, .int .i64 2]) (ev_call hM401 rfl rfl rfl (fun w => by simp [go_sem]) _) (nw_CountK 1 2 ((HZ.out.below HB230.out)).nt (k := L.length) (by rw [KK_12, List.length_map])) (fun e w403 hp => ?_)
          obtain ⟨rfl, rfl⟩ := hp
          refine ⟨_, rfl, fun a406 hM405 => ?_⟩
          clear hM401
          refine s_val hM405 (.inl rfl) rfl rfl (ev_bin rfl rfl rfl g_int (b_gtr (b := false) (by rw [decide_eq_false_iff_not]; omega))) (fun a408 hM407 => ?_)
          clear hM405
          refine seg_nil (hK400 _ _ ?_)
          clear hK400 K400 QK400
          have hM409 := hM407.cut6 (t1 := 0) (t2 := 3) (t3 := 4) (t4 := 6) (t5 := 7) (t6 := 62) rfl rfl rfl rfl rfl rfl
          clear hM407
          refine wp_cond_false (hM409.ev (t := 62) rfl) ?_
          refine wp_exit ?_
          repeat (with_reducible refine th_e ?_)
          refine inb_e ?_
          refine hK218 _ _ ?_
          refine wp_seq_k fun K410 hK410 => ?_
          refine region_then fun K411 QK411 hK411 => ?_
          refine s_val hM409 (.inl rfl) rfl rfl (ev_move (.inr rfl) rfl) (fun a413 hM412 => ?_)
          clear hM409
          refine seg_nil (hK411 _ _ ?_)
          clear hK411 K411 QK411
          have hM414 := hM412.cut4 (t1 := 3) (t2 := 4) (t3 := 6) (t4 := 11) rfl rfl rfl rfl
          clear hM412
          obtain rfl : L = [] := List.eq_nil_of_length_eq_zero (by omega)
          clear hSK hL
          have HZ0 : Hid (NtZ w w224 g (KK ([]) (((List.range cc).drop 0).map kb)) g202 70 (seenC cc [])) := (HZ.out.below HB230.out)
          clear HZ
          have HZ := HZ0
          clear HZ0
          have HJ : Hid (0 ≤ cc) := Nat.zero_le _
          have hM415 := hM414.cut4 (t1 := 11) (t2 := 3) (t3 := 4) (t4 := 6) rfl rfl rfl rfl
          clear hM414
          refine wp_block ?_
          refine wp_loop_ghost (fun m a w' => ∃ (i4 : Nat), m = cc - i4 ∧ Frm a 169 [(11, .int .i64 (i4 : Int)), (3, .pointer (some ⟨g, 0, none⟩)), (4, .int .i64 ((cc : Int))), (6, .pointer (some ⟨g202, 0, none⟩))] ∧ Hid (Below w.heap.size w w') ∧ Hid (NtZ w w' g (KK ([]) (((List.range cc).drop i4).map kb)) g202 70 (seenC cc [])) ∧ Hid (i4 ≤ cc)) cc ⟨0,  by omega, hM415, HB227, HZ, HJ⟩ ?_
          clear HB227 HB230 hM415 HZ HJ
          rintro m420 a417 w416 ⟨i4, rfl, hM418, HB419, HZ, HJ⟩
          have HB422 : Hid (Below w416.heap.size w416 w416) := Below.refl _ _
          refine wp_seq_k fun K423 hK423 => ?_
          by_cases hl4 : i4 < cc
          case pos =>
            have hs4 := sN_nil hl4
            refine region_then fun K424 QK424 hK424 => ?_
            refine s_val hM418 (.inl rfl) rfl rfl (ev_move (.inl rfl) rfl) (fun a426 hM425 => ?_)
            clear hM418
            refine s_val hM425 (.inl rfl) rfl rfl (ev_move (.inl rfl) rfl) (fun a428 hM427 => ?_)
            clear hM425
            refine s_val hM427 (.inl rfl) rfl rfl (ev_bin rfl rfl rfl g_int (b_lss (b := true) (by rw [decide_eq_true_eq]; omega))) (fun a430 hM429 => ?_)
            clear hM427
            refine seg_nil (hK424 _ _ ?_)
            clear hK424 K424 QK424
            have hM431 := hM429.cut5 (t1 := 3) (t2 := 4) (t3 := 6) (t4 := 11) (t5 := 125) rfl rfl rfl rfl rfl
            clear hM429
            refine wp_cond_true (hM431.ev (t := 125) rfl) ?_
            refine wp_skip ?_
            refine hK423 _ _ ?_
            refine wp_seq_k fun K432 hK432 => ?_
            refine wp_block ?_
            refine region_then fun K433 QK433 hK433 => ?_
            refine s_val hM431 (.inl rfl) rfl rfl (ev_move (.inr rfl) rfl) (fun a435 hM434 => ?_)
            clear hM431
            refine seg_nil (hK433 _ _ ?_)
            clear hK433 K433 QK433
            have hM436 := hM434.cut5 (t1 := 3) (t2 := 4) (t3 := 6) (t4 := 11) (t5 := 12) rfl rfl rfl rfl rfl
            clear hM434
            refine wp_seq_k fun K437 hK437 => ?_
            by_cases hz4 : i4 = 0
            case pos =>
              rw [if_pos hz4] at hs4
              refine region_then fun K438 QK438 hK438 => ?_
              refine s_val hM436 (.inl rfl) rfl rfl (ev_move (.inl rfl) rfl) (fun a440 hM439 => ?_)
              clear hM436
              refine s_val hM439 (.inl rfl) rfl rfl (ev_bin rfl rfl rfl g_int (b_eql (b := true) (by rw [decide_eq_true_eq]; omega))) (fun a442 hM441 => ?_)
              clear hM439
              refine seg_nil (hK438 _ _ ?_)
              clear hK438 K438 QK438
              have hM443 := hM441.cut6 (t1 := 3) (t2 := 4) (t3 := 6) (t4 := 11) (t5 := 12) (t6 := 129) rfl rfl rfl rfl rfl rfl
              clear hM441
              refine wp_cond_true (hM443.ev (t := 129) rfl) ?_
              refine region_last fun K444 QK444 hK444 => ?_
              refine s_val hM443 (.inl rfl) rfl rfl (ev_move (.inr rfl) rfl) (fun a446 hM445 => ?_)
              clear hM443
              refine seg_nil (hK444 _ _ ?_)
              clear hK444 K444 QK444
              have hM447 := hM445.cut5 (t1 := 3) (t2 := 4) (t3 := 6) (t4 := 11) (t5 := 12) rfl rfl rfl rfl rfl
              clear hM445
              refine hK437 _ _ ?_
              refine region_then fun K448 QK448 hK448 => ?_
              refine s_val hM447 (.inl rfl) rfl rfl (ev_move (.inl rfl) rfl) (fun a450 hM449 => ?_)
              clear hM447
              refine s_call hM449 (.inl rfl) rfl rfl (f := 46) (args := #[.pointer (some ⟨g, 0, none⟩), .int .i64 2, .int .i64 1, .int .i64 0]) (ev_call hM449 rfl rfl rfl (fun w => by simp [go_sem]) _) (nz_Take_ok (i := 0) (x := kb i4) 2 1 (HZ.out.below HB422.out) (by decide) (by rw [KK_21, List.getElem?_map, List.getElem?_drop, List.getElem?_range (by omega)]; rfl)) (fun e w451 hp => ?_)
              obtain ⟨v1, rfl, ho, hZ⟩ := hp
              obtain ⟨A1, c1, rfl⟩ := own_slice ho
              have HV := hide (Sl.of_own ho)
              clear ho
              have HZ_ : Hid (NtZ w w451 g (KK ([]) (((List.range cc).drop (i4 + 1)).map kb)) g202 70 (seenC cc [])) := by
                have h := hZ
                rw [KK_21, KK_u21, drop_erase kb] at h
                exact h
              clear hZ HZ HB419 HB422 
              have HZ := HZ_
              clear HZ_
              have HB455 := hide HZ.out.old
              have HB457 : Hid (Below w451.heap.size w451 w451) := Below.refl _ _
              refine ⟨_, rfl, fun a454 hM453 => ?_⟩
              clear hM449
              refine s_val hM453 (.inl rfl) rfl rfl (ev_move (.inl rfl) rfl) (fun a459 hM458 => ?_)
              clear hM453
              refine s_val hM458 (.inl rfl) rfl rfl (ev_ext (v := .slice A1 ((kb i4).length) c1) rfl rfl rfl) (fun a461 hM460 => ?_)
              clear hM458
              refine s_val hM460 (.inl rfl) rfl rfl (ev_ext (v := .int .i64 0) rfl rfl rfl) (fun a463 hM462 => ?_)
              clear hM460
              refine s_val hM462 (.inl rfl) rfl rfl (ev_move (.inr rfl) rfl) (fun a465 hM464 => ?_)
              clear hM462
              refine s_val hM464 (.inl rfl) rfl rfl (ev_move (.inr rfl) rfl) (fun a467 hM466 => ?_)
              clear hM464
              refine seg_nil (hK448 _ _ ?_)
              clear hK448 K448 QK448
              have hM468 := hM466.cut7 (t1 := 3) (t2 := 4) (t3 := 6) (t4 := 11) (t5 := 12) (t6 := 13) (t7 := 14) rfl rfl rfl rfl rfl rfl rfl
              clear hM466
              refine region_then fun K469 QK469 hK469 => ?_
              refine s_val hM468 (.inl rfl) rfl rfl (ev_move (.inl rfl) rfl) (fun a471 hM470 => ?_)
              clear hM468
              refine s_val hM470 (.inl rfl) rfl rfl (ev_idxa (b := g202) (off := 0) (m := 40) (k := i4) (sz := 1) (p := i4) rfl rfl rfl Try.underlying70 (by kernel_rfl) (by omega) (by omega)) (fun a473 hM472 => ?_)
              clear hM470
              refine s_val hM472 (.inl rfl) rfl rfl (ev_load1 (v := .int .i64 (sN cc [] i4 : Int)) rfl rfl (((HZ.out.below HB457.out)).blk.at_ (seenC_at (by omega))) (isAgg_no Try.underlying3 rfl)) (fun a475 hM474 => ?_)
              clear hM472
              refine s_val hM474 (.inl rfl) rfl rfl (ev_move (.inl rfl) rfl) (fun a477 hM476 => ?_)
              clear hM474
              refine s_val hM476 (.inl rfl) rfl rfl (ev_bin rfl rfl rfl g_int (b_neq (b := false) (by rw [decide_eq_false_iff_not]; omega))) (fun a479 hM478 => ?_)
              clear hM476
              refine s_val hM478 (.inl rfl) rfl rfl (ev_move (.inl rfl) rfl) (fun a481 hM480 => ?_)
              clear hM478
              refine s_val hM480 (.inr ⟨_, _, _, rfl, rfl, rfl⟩) rfl rfl (ev_move (.inl rfl) rfl) (fun a483 hM482 => ?_)
              clear hM480
              refine s_call hM482 (.inr ⟨_, _, _, rfl, rfl, rfl⟩) rfl rfl (f := 42) (args := #[.int .i64 0]) (ev_call hM482 rfl rfl rfl (fun w => by simp [go_sem]) _) (law12_num _ _) (fun e w484 hp => ?_)
              obtain ⟨rfl, rfl⟩ := hp
              refine ⟨_, rfl, fun a487 hM486 => ?_⟩
              clear hM482
              refine s_val hM486 (.inr ⟨_, _, _, rfl, rfl, rfl⟩) rfl rfl (ev_bin rfl rfl rfl g_int (b_neq (b := false) (by decide))) (fun a489 hM488 => ?_)
              clear hM486
              refine s_val hM488 (.inl rfl) rfl rfl (ev_pick rfl rfl rfl) (fun a491 hM490 => ?_)
              clear hM488
              refine s_val hM490 (.inl rfl) rfl rfl (ev_move (.inl rfl) rfl) (fun a493 hM492 => ?_)
              clear hM490
              refine s_val hM492 (.inr ⟨_, _, _, rfl, rfl, rfl⟩) rfl rfl (ev_move (.inl rfl) rfl) (fun a495 hM494 => ?_)
              clear hM492
              refine s_val hM494 (.inr ⟨_, _, _, rfl, rfl, rfl⟩) rfl rfl (ev_move (.inl rfl) rfl) (fun a497 hM496 => ?_)
              clear hM494
              refine s_val hM496 (.inr ⟨_, _, _, rfl, rfl, rfl⟩) rfl rfl (ev_conv8j (j := i4) rfl rfl Try.underlying3 Try.underlying5) (fun a499 hM498 => ?_)
              clear hM496
              refine s_alloc (e := 5) hM498 (.inr ⟨_, _, _, rfl, rfl, rfl⟩) rfl rfl (V := fun g => .slice (some ⟨g, 0, none⟩) 1 1) (ev_bsl hM498 rfl rfl (fun w => by kernel_rfl)) (fun g500 a506 w501 hM505 KB504_ hb502 hg503 => ?_)
              have KB504 := hide KB504_
              clear hM498 KB504_
              have lo507 := hide (Nat.le_trans HB455.out.size hg503)
              have lo508 := hide (Nat.le_trans HB457.out.size hg503)
              clear hg503
              have HB509 := hide (below_then HB455.out hb502)
              have HB510 := hide (below_then HB457.out hb502)
              clear hb502 HB455 HB457
              have HB512 : Hid (Below w501.heap.size w501 w501) := Below.refl _ _
              refine s_call hM505 (.inr ⟨_, _, _, rfl, rfl, rfl⟩) rfl rfl (f := 26) (args := #[.slice A1 ((kb i4).length) c1, .slice ((some ⟨g500, 0, none⟩)) 1 1]) (ev_call hM505 rfl rfl rfl (fun w => by simp [go_sem]) _) (eqBytes_b (xs := kb i4) (ys := kb i4) _ (HV.out.below HB510.out) (by show 1 ≤ _; omega) (Sl.of_blk (size := 1) (n := 1) (KB504.out.on HB512.out) rfl) (by omega) (r := true) (beq_self_eq_true (kb i4))) (fun e w513 hp => ?_)
              obtain ⟨rfl, hb514⟩ := hp
              refine ⟨_, rfl, fun a516 hM515 => ?_⟩
              clear hM505
              have HB517 := hide (below_then HB509.out hb514)
              have HB518 := hide (below_then HB510.out hb514)
              have HB519 := hide (below_then HB512.out hb514)
              clear hb514 HB509 HB510 HB512
              refine s_val hM515 (.inr ⟨_, _, _, rfl, rfl, rfl⟩) rfl rfl (ev_not rfl rfl rfl) (fun a521 hM520 => ?_)
              clear hM515
              refine s_val hM520 (.inl rfl) rfl rfl (ev_pick rfl rfl rfl) (fun a523 hM522 => ?_)
              clear hM520
              refine seg_nil (hK469 _ _ ?_)
              clear hK469 K469 QK469
              have hM524 := hM522.cut5 (t1 := 3) (t2 := 4) (t3 := 6) (t4 := 11) (t5 := 152) rfl rfl rfl rfl rfl
              clear hM522
              refine wp_cond_false (hM524.ev (t := 152) rfl) ?_
              refine wp_skip ?_
              refine inb_n ?_
              refine hK432 _ _ ?_
              refine region_last fun K525 QK525 hK525 => ?_
              refine s_val hM524 (.inl rfl) rfl rfl (ev_move (.inl rfl) rfl) (fun a527 hM526 => ?_)
              clear hM524
              refine s_val hM526 (.inl rfl) rfl rfl (ev_bin rfl rfl rfl g_int (b_add (r := ((i4 + 1 : Nat) : Int)) (by omega) (by omega))) (fun a529 hM528 => ?_)
              clear hM526
              refine s_val hM528 (.inl rfl) rfl rfl (ev_move (.inr rfl) rfl) (fun a531 hM530 => ?_)
              clear hM528
              refine seg_nil (hK525 _ _ ?_)
              clear hK525 K525 QK525
              have hM532 := hM530.cut4 (t1 := 3) (t2 := 4) (t3 := 6) (t4 := 11) rfl rfl rfl rfl
              clear hM530
              have hM533 := hM532.cut4 (t1 := 11) (t2 := 3) (t3 := 4) (t4 := 6) rfl rfl rfl rfl
              clear hM532
              exact ⟨cc - (i4 + 1), by omega, i4 + 1, rfl, hM533, HB517, (hide (HZ.out.below HB518.out)), (show Hid (i4 + 1 ≤ cc) from hl4)⟩
            case neg =>
              rw [if_neg hz4] at hs4
              refine region_then fun K534 QK534 hK534 => ?_
              refine s_val hM436 (.inl rfl) rfl rfl (ev_move (.inl rfl) rfl) (fun a536 hM535 => ?_)
              clear hM436
              refine s_val hM535 (.inl rfl) rfl rfl (ev_bin rfl rfl rfl g_int (b_eql (b := false) (by rw [decide_eq_false_iff_not]; omega))) (fun a538 hM537 => ?_)
              clear hM535
              refine seg_nil (hK534 _ _ ?_)
              clear hK534 K534 QK534
              have hM539 := hM537.cut6 (t1 := 3) (t2 := 4) (t3 := 6) (t4 := 11) (t5 := 12) (t6 := 129) rfl rfl rfl rfl rfl rfl
              clear hM537
              refine wp_cond_false (hM539.ev (t := 129) rfl) ?_
              refine wp_skip ?_
              refine hK437 _ _ ?_
              refine region_then fun K540 QK540 hK540 => ?_
              refine s_val hM539 (.inl rfl) rfl rfl (ev_move (.inl rfl) rfl) (fun a542 hM541 => ?_)
              clear hM539
              refine s_call hM541 (.inl rfl) rfl rfl (f := 46) (args := #[.pointer (some ⟨g, 0, none⟩), .int .i64 2, .int .i64 1, .int .i64 0]) (ev_call hM541 rfl rfl rfl (fun w => by simp [go_sem]) _) (nz_Take_ok (i := 0) (x := kb i4) 2 1 (HZ.out.below HB422.out) (by decide) (by rw [KK_21, List.getElem?_map, List.getElem?_drop, List.getElem?_range (by omega)]; rfl)) (fun e w543 hp => ?_)
              obtain ⟨v1, rfl, ho, hZ⟩ := hp
              obtain ⟨A1, c1, rfl⟩ := own_slice ho
              have HV := hide (Sl.of_own ho)
              clear ho
              have HZ_ : Hid (NtZ w w543 g (KK ([]) (((List.range cc).drop (i4 + 1)).map kb)) g202 70 (seenC cc [])) := by
                have h := hZ
                rw [KK_21, KK_u21, drop_erase kb] at h
                exact h
              clear hZ HZ HB419 HB422 
              have HZ := HZ_
              clear HZ_
              have HB547 := hide HZ.out.old
              have HB549 : Hid (Below w543.heap.size w543 w543) := Below.refl _ _
              refine ⟨_, rfl, fun a546 hM545 => ?_⟩
              clear hM541
              refine s_val hM545 (.inl rfl) rfl rfl (ev_move (.inl rfl) rfl) (fun a551 hM550 => ?_)
              clear hM545
              refine s_val hM550 (.inl rfl) rfl rfl (ev_ext (v := .slice A1 ((kb i4).length) c1) rfl rfl rfl) (fun a553 hM552 => ?_)
              clear hM550
              refine s_val hM552 (.inl rfl) rfl rfl (ev_ext (v := .int .i64 0) rfl rfl rfl) (fun a555 hM554 => ?_)
              clear hM552
              refine s_val hM554 (.inl rfl) rfl rfl (ev_move (.inr rfl) rfl) (fun a557 hM556 => ?_)
              clear hM554
              refine s_val hM556 (.inl rfl) rfl rfl (ev_move (.inr rfl) rfl) (fun a559 hM558 => ?_)
              clear hM556
              refine seg_nil (hK540 _ _ ?_)
              clear hK540 K540 QK540
              have hM560 := hM558.cut7 (t1 := 3) (t2 := 4) (t3 := 6) (t4 := 11) (t5 := 12) (t6 := 13) (t7 := 14) rfl rfl rfl rfl rfl rfl rfl
              clear hM558
              refine region_then fun K561 QK561 hK561 => ?_
              refine s_val hM560 (.inl rfl) rfl rfl (ev_move (.inl rfl) rfl) (fun a563 hM562 => ?_)
              clear hM560
              refine s_val hM562 (.inl rfl) rfl rfl (ev_idxa (b := g202) (off := 0) (m := 40) (k := i4) (sz := 1) (p := i4) rfl rfl rfl Try.underlying70 (by kernel_rfl) (by omega) (by omega)) (fun a565 hM564 => ?_)
              clear hM562
              refine s_val hM564 (.inl rfl) rfl rfl (ev_load1 (v := .int .i64 (sN cc [] i4 : Int)) rfl rfl (((HZ.out.below HB549.out)).blk.at_ (seenC_at (by omega))) (isAgg_no Try.underlying3 rfl)) (fun a567 hM566 => ?_)
              clear hM564
              refine s_val hM566 (.inl rfl) rfl rfl (ev_move (.inl rfl) rfl) (fun a569 hM568 => ?_)
              clear hM566
              refine s_val hM568 (.inl rfl) rfl rfl (ev_bin rfl rfl rfl g_int (b_neq (b := false) (by rw [decide_eq_false_iff_not]; omega))) (fun a571 hM570 => ?_)
              clear hM568
              refine s_val hM570 (.inl rfl) rfl rfl (ev_move (.inl rfl) rfl) (fun a573 hM572 => ?_)
              clear hM570
              refine s_val hM572 (.inr ⟨_, _, _, rfl, rfl, rfl⟩) rfl rfl (ev_move (.inl rfl) rfl) (fun a575 hM574 => ?_)
              clear hM572
              refine s_call hM574 (.inr ⟨_, _, _, rfl, rfl, rfl⟩) rfl rfl (f := 42) (args := #[.int .i64 0]) (ev_call hM574 rfl rfl rfl (fun w => by simp [go_sem]) _) (law12_num _ _) (fun e w576 hp => ?_)
              obtain ⟨rfl, rfl⟩ := hp
              refine ⟨_, rfl, fun a579 hM578 => ?_⟩
              clear hM574
              refine s_val hM578 (.inr ⟨_, _, _, rfl, rfl, rfl⟩) rfl rfl (ev_bin rfl rfl rfl g_int (b_neq (b := false) (by decide))) (fun a581 hM580 => ?_)
              clear hM578
              refine s_val hM580 (.inl rfl) rfl rfl (ev_pick rfl rfl rfl) (fun a583 hM582 => ?_)
              clear hM580
              refine s_val hM582 (.inl rfl) rfl rfl (ev_move (.inl rfl) rfl) (fun a585 hM584 => ?_)
              clear hM582
              refine s_val hM584 (.inr ⟨_, _, _, rfl, rfl, rfl⟩) rfl rfl (ev_move (.inl rfl) rfl) (fun a587 hM586 => ?_)
              clear hM584
              refine s_val hM586 (.inr ⟨_, _, _, rfl, rfl, rfl⟩) rfl rfl (ev_move (.inl rfl) rfl) (fun a589 hM588 => ?_)
              clear hM586
              refine s_val hM588 (.inr ⟨_, _, _, rfl, rfl, rfl⟩) rfl rfl (ev_conv8j (j := i4) rfl rfl Try.underlying3 Try.underlying5) (fun a591 hM590 => ?_)
              clear hM588
              refine s_alloc (e := 5) hM590 (.inr ⟨_, _, _, rfl, rfl, rfl⟩) rfl rfl (V := fun g => .slice (some ⟨g, 0, none⟩) 1 1) (ev_bsl hM590 rfl rfl (fun w => by kernel_rfl)) (fun g592 a598 w593 hM597 KB596_ hb594 hg595 => ?_)
              have KB596 := hide KB596_
              clear hM590 KB596_
              have lo599 := hide (Nat.le_trans HB547.out.size hg595)
              have lo600 := hide (Nat.le_trans HB549.out.size hg595)
              clear hg595
              have HB601 := hide (below_then HB547.out hb594)
              have HB602 := hide (below_then HB549.out hb594)
              clear hb594 HB547 HB549
              have HB604 : Hid (Below w593.heap.size w593 w593) := Below.refl _ _
              refine s_call hM597 (.inr ⟨_, _, _, rfl, rfl, rfl⟩) rfl rfl (f := 26) (args := #[.slice A1 ((kb i4).length) c1, .slice ((some ⟨g592, 0, none⟩)) 1 1]) (ev_call hM597 rfl rfl rfl (fun w => by simp [go_sem]) _) (eqBytes_b (xs := kb i4) (ys := kb i4) _ (HV.out.below HB602.out) (by show 1 ≤ _; omega) (Sl.of_blk (size := 1) (n := 1) (KB596.out.on HB604.out) rfl) (by omega) (r := true) (beq_self_eq_true (kb i4))) (fun e w605 hp => ?_)
              obtain ⟨rfl, hb606⟩ := hp
              refine ⟨_, rfl, fun a608 hM607 => ?_⟩
              clear hM597
              have HB609 := hide (below_then HB601.out hb606)
              have HB610 := hide (below_then HB602.out hb606)
              have HB611 := hide (below_then HB604.out hb606)
              clear hb606 HB601 HB602 HB604
              refine s_val hM607 (.inr ⟨_, _, _, rfl, rfl, rfl⟩) rfl rfl (ev_not rfl rfl rfl) (fun a613 hM612 => ?_)
              clear hM607
              refine s_val hM612 (.inl rfl) rfl rfl (ev_pick rfl rfl rfl) (fun a615 hM614 => ?_)
              clear hM612
              refine seg_nil (hK561 _ _ ?_)
              clear hK561 K561 QK561
              have hM616 := hM614.cut5 (t1 := 3) (t2 := 4) (t3 := 6) (t4 := 11) (t5 := 152) rfl rfl rfl rfl rfl
              clear hM614
              refine wp_cond_false (hM616.ev (t := 152) rfl) ?_
              refine wp_skip ?_
              refine inb_n ?_
              refine hK432 _ _ ?_
              refine region_last fun K617 QK617 hK617 => ?_
              refine s_val hM616 (.inl rfl) rfl rfl (ev_move (.inl rfl) rfl) (fun a619 hM618 => ?_)
              clear hM616
              refine s_val hM618 (.inl rfl) rfl rfl (ev_bin rfl rfl rfl g_int (b_add (r := ((i4 + 1 : Nat) : Int)) (by omega) (by omega))) (fun a621 hM620 => ?_)
              clear hM618
              refine s_val hM620 (.inl rfl) rfl rfl (ev_move (.inr rfl) rfl) (fun a623 hM622 => ?_)
              clear hM620
              refine seg_nil (hK617 _ _ ?_)
              clear hK617 K617 QK617
              have hM624 := hM622.cut4 (t1 := 3) (t2 := 4) (t3 := 6) (t4 := 11) rfl rfl rfl rfl
              clear hM622
              have hM625 := hM624.cut4 (t1 := 11) (t2 := 3) (t3 := 4) (t4 := 6) rfl rfl rfl rfl
              clear hM624
              exact ⟨cc - (i4 + 1), by omega, i4 + 1, rfl, hM625, HB609, (hide (HZ.out.below HB610.out)), (show Hid (i4 + 1 ≤ cc) from hl4)⟩
          case neg =>
            obtain rfl : cc = i4 := by have := HJ.out; omega
            clear HJ hl4
            refine region_then fun K626 QK626 hK626 => ?_
            refine s_val hM418 (.inl rfl) rfl rfl (ev_move (.inl rfl) rfl) (fun a628 hM627 => ?_)
            clear hM418
            refine s_val hM627 (.inl rfl) rfl rfl (ev_move (.inl rfl) rfl) (fun a630 hM629 => ?_)
            clear hM627
            refine s_val hM629 (.inl rfl) rfl rfl (ev_bin rfl rfl rfl g_int (b_lss (b := false) (by rw [decide_eq_false_iff_not]; omega))) (fun a632 hM631 => ?_)
            clear hM629
            refine seg_nil (hK626 _ _ ?_)
            clear hK626 K626 QK626
            have hM633 := hM631.cut5 (t1 := 3) (t2 := 4) (t3 := 6) (t4 := 11) (t5 := 125) rfl rfl rfl rfl rfl
            clear hM631
            refine wp_cond_false (hM633.ev (t := 125) rfl) ?_
            refine wp_exit ?_
            repeat (with_reducible refine th_e ?_)
            refine inb_e ?_
            refine hK410 _ _ ?_
            refine region_then fun K634 QK634 hK634 => ?_
            refine s_val hM633 (.inl rfl) rfl rfl (ev_move (.inl rfl) rfl) (fun a636 hM635 => ?_)
            clear hM633
            refine s_call hM635 (.inl rfl) rfl rfl (f := 46) (args := #[.pointer (some ⟨g, 0, none⟩), .int .i64 1, .int .i64 2, .int .i64 0]) (ev_call hM635 rfl rfl rfl (fun w => by simp [go_sem]) _) (nb_Take_no 1 2 0 ((HZ.out.below HB422.out)).nt (.inr (by rw [KK_12]; decide))) (fun e w637 hp => ?_)
            obtain ⟨rfl, hb638⟩ := hp
            refine ⟨_, rfl, fun a640 hM639 => ?_⟩
            clear hM635
            have HB641 := hide (below_then HB419.out hb638)
            have HB642 := hide (below_then HB422.out hb638)
            clear hb638 HB419 HB422
            refine s_val hM639 (.inl rfl) rfl rfl (ev_move (.inl rfl) rfl) (fun a644 hM643 => ?_)
            clear hM639
            refine s_val hM643 (.inl rfl) rfl rfl (ev_ext (v := .slice none 0 0) rfl rfl rfl) (fun a646 hM645 => ?_)
            clear hM643
            refine s_val hM645 (.inl rfl) rfl rfl (ev_ext (v := .int .i64 3) rfl rfl rfl) (fun a648 hM647 => ?_)
            clear hM645
            refine s_val hM647 (.inl rfl) rfl rfl (ev_move (.inr rfl) rfl) (fun a650 hM649 => ?_)
            clear hM647
            refine s_val hM649 (.inl rfl) rfl rfl (ev_move (.inr rfl) rfl) (fun a652 hM651 => ?_)
            clear hM649
            refine seg_nil (hK634 _ _ ?_)
            clear hK634 K634 QK634
            have hM653 := hM651.cut2 (t1 := 3) (t2 := 16) rfl rfl
            clear hM651
            refine region_then fun K654 QK654 hK654 => ?_
            refine s_val hM653 (.inl rfl) rfl rfl (ev_move (.inl rfl) rfl) (fun a656 hM655 => ?_)
            clear hM653
            refine s_call hM655 (.inl rfl) rfl rfl (f := 42) (args := #[.int .i64 3]) (ev_call hM655 rfl rfl rfl (fun w => by simp [go_sem]) _) (law12_num _ _) (fun e w657 hp => ?_)
            obtain ⟨rfl, rfl⟩ := hp
            refine ⟨_, rfl, fun a660 hM659 => ?_⟩
            clear hM655
            refine s_val hM659 (.inl rfl) rfl rfl (ev_bin rfl rfl rfl g_int (b_eql (b := true) (by decide))) (fun a662 hM661 => ?_)
            clear hM659
            refine s_val hM661 (.inl rfl) rfl rfl (ev_move (.inl rfl) rfl) (fun a664 hM663 => ?_)
            clear hM661
            refine s_val hM663 (.inr ⟨_, _, _, rfl, rfl, rfl⟩) rfl rfl (ev_move (.inl rfl) rfl) (fun a666 hM665 => ?_)
            clear hM663
            refine s_call hM665 (.inr ⟨_, _, _, rfl, rfl, rfl⟩) rfl rfl (f := 45) (args := #[.pointer (some ⟨g, 0, none⟩), .int .i64 2, .int .i64 1]) (ev_call hM665 rfl rfl rfl (fun w => by simp [go_sem]) _) (nw_CountK 2 1 ((HZ.out.below HB642.out)).nt (k := 0) (by rw [KK_21, List.length_map, List.length_drop, List.length_range]; omega)) (fun e w667 hp => ?_)
            obtain ⟨rfl, rfl⟩ := hp
            refine ⟨_, rfl, fun a670 hM669 => ?_⟩
            clear hM665
            refine s_val hM669 (.inr ⟨_, _, _, rfl, rfl, rfl⟩) rfl rfl (ev_bin rfl rfl rfl g_int (b_eql (b := true) (by decide))) (fun a672 hM671 => ?_)
            clear hM669
            refine s_val hM671 (.inl rfl) rfl rfl (ev_pick rfl rfl rfl) (fun a674 hM673 => ?_)
            clear hM671
            refine s_val hM673 (.inl rfl) rfl rfl (ev_move (.inl rfl) rfl) (fun a676 hM675 => ?_)
            clear hM673
            refine s_call hM675 (.inr ⟨_, _, _, rfl, rfl, rfl⟩) rfl rfl (f := 47) (args := #[]) (ev_call hM675 rfl rfl rfl (fun w => by simp [go_sem]) _) (law12_wakes _) (fun e w677 hp => ?_)
            obtain ⟨rfl, hb678⟩ := hp
            refine ⟨_, rfl, fun a680 hM679 => ?_⟩
            clear hM675
            have HB681 := hide (below_then HB641.out hb678)
            have HB682 := hide (below_then HB642.out hb678)
            clear hb678 HB641 HB642
            refine s_val hM679 (.inl rfl) rfl rfl (ev_pick rfl rfl rfl) (fun a684 hM683 => ?_)
            clear hM679
            refine s_val hM683 (.inl rfl) rfl rfl (ev_move (.inr rfl) rfl) (fun a686 hM685 => ?_)
            clear hM683
            refine seg_nil (hK654 _ _ ?_)
            clear hK654 K654 QK654
            have hM687 := hM685.cut1 (t1 := 2) rfl
            clear hM685
            refine wp_ret ?_
            repeat (with_reducible first | refine th_r ?_ | refine inb_r ?_ | refine js_r ?_)
            refine ret_of (t := 2) rfl hM687 rfl ?_
            exact ⟨rfl, HB681.out⟩
      case neg =>
        have HN_ : Hid (NtW w w54 g (KK ((L0 cc).map (xf d)) ((List.range cc).map kb))) := by
          have h := (HN.out.below HB60.out)
          obtain rfl : cc = 0 := by omega
          exact h
        clear HN
        have HN := HN_
        clear HN_
        have HB689 : Hid (Below w54.heap.size w54 w54) := Below.refl _ _
        refine region_then fun K690 QK690 hK690 => ?_
        refine s_val hM174 (.inl rfl) rfl rfl (ev_move (.inl rfl) rfl) (fun a692 hM691 => ?_)
        clear hM174
        refine s_val hM691 (.inl rfl) rfl rfl (ev_bin rfl rfl rfl g_int (b_gtr (b := false) (by rw [decide_eq_false_iff_not]; omega))) (fun a694 hM693 => ?_)
        clear hM691
        refine s_val hM693 (.inl rfl) rfl rfl (ev_move (.inl rfl) rfl) (fun a696 hM695 => ?_)
        clear hM693
        refine s_skip hM695 rfl rfl rfl rfl rfl rfl (fun a698 hM697 => ?_)
        clear hM695
        refine s_skip hM697 rfl rfl rfl rfl rfl rfl (fun a700 hM699 => ?_)
        clear hM697
        refine s_skip hM699 rfl rfl rfl rfl rfl rfl (fun a702 hM701 => ?_)
        clear hM699
        refine s_skip hM701 rfl rfl rfl rfl rfl rfl (fun a704 hM703 => ?_)
        clear hM701
        refine s_val hM703 (.inl rfl) rfl rfl (ev_pick rfl rfl rfl) (fun a706 hM705 => ?_)
        clear hM703
        refine seg_nil (hK690 _ _ ?_)
        clear hK690 K690 QK690
        have hM707 := hM705.cut4 (t1 := 0) (t2 := 3) (t3 := 4) (t4 := 59) rfl rfl rfl rfl
        clear hM705
        refine wp_cond_false (hM707.ev (t := 59) rfl) ?_
        refine wp_skip ?_
        refine hK175 _ _ ?_
        refine region_then fun K708 QK708 hK708 => ?_
        refine s_alloc (e := 70) hM707 (.inl rfl) rfl rfl (V := fun g => .pointer (some ⟨g, 0, none⟩)) (ev_alloc rfl alloc_40) (fun g709 a715 w710 hM714 KB713_ hb711 hg712 => ?_)
        have KB713 := hide KB713_
        clear hM707 KB713_
        have lo716 := hide (Nat.le_trans HB57.out.size hg712)
        have lo717 := hide (Nat.le_trans HB60.out.size hg712)
        have lo718 := hide (Nat.le_trans HB689.out.size hg712)
        clear hg712
        have HB719 := hide (below_then HB57.out hb711)
        have HB720 := hide (below_then HB60.out hb711)
        have HB721 := hide (below_then HB689.out hb711)
        clear hb711 HB57 HB60 HB689
        have HB723 : Hid (Below w710.heap.size w710 w710) := Below.refl _ _
        have HZ : Hid (NtZ w w710 g (KK ((L0 cc).map (xf d)) ((List.range cc).map kb)) g709 70 (seenC cc (L0 cc))) := by
          rw [seenC_0]
          exact NtZ.mk_ HN.out HB721.out (KB713.out.on HB723.out) lo718.out
        clear HN KB713
        have HB725 : Hid (Below w710.heap.size w710 w710) := Below.refl _ _
        refine seg_nil (hK708 _ _ ?_)
        clear hK708 K708 QK708
        have hM726 := hM714.cut4 (t1 := 0) (t2 := 3) (t3 := 4) (t4 := 6) rfl rfl rfl rfl
        clear hM714
        refine wp_seq_k fun K727 hK727 => ?_
        refine region_then fun K728 QK728 hK728 => ?_
        refine s_val hM726 (.inl rfl) rfl rfl (ev_move (.inr rfl) rfl) (fun a730 hM729 => ?_)
        clear hM726
        refine seg_nil (hK728 _ _ ?_)
        clear hK728 K728 QK728
        have hM731 := hM729.cut5 (t1 := 0) (t2 := 3) (t3 := 4) (t4 := 6) (t5 := 7) rfl rfl rfl rfl rfl
        clear hM729
        have hM732 := hM731.cut5 (t1 := 7) (t2 := 0) (t3 := 3) (t4 := 4) (t5 := 6) rfl rfl rfl rfl rfl
        clear hM731
        refine wp_block ?_
        refine wp_loop_ghost (fun m a w' => ∃ (j : Nat) (L : List Nat), m = (cc + 1) - j ∧ Frm a 169 [(7, .int .i64 (j : Int)), (0, .slice A n c), (3, .pointer (some ⟨g, 0, none⟩)), (4, .int .i64 ((cc : Int))), (6, .pointer (some ⟨g709, 0, none⟩))] ∧ Hid (Below w.heap.size w w') ∧ Hid (NtZ w w' g (KK (L.map (xf d)) ((List.range cc).map kb)) g709 70 (seenC cc L)) ∧ SubK cc L j) (cc + 1) ⟨0, L0 cc,  by omega, hM732, HB719, HZ, SubK.first⟩ ?_
        clear HB719 HB720 HB721 HB723 HB725 hM732 HZ
        rintro m737 a734 w733 ⟨j, L, rfl, hM735, HB736, HZ, hSK⟩
        have HB739 : Hid (Below w733.heap.size w733 w733) := Below.refl _ _
        refine wp_seq_k fun K740 hK740 => ?_
        by_cases hL : 0 < L.length
        case pos =>
          have h0 : 0 < cc := by
            obtain ⟨e, he⟩ := List.exists_mem_of_length_pos hL
            have := hSK.lt he
            omega
          have hlen := hSK.len
          rw [L0_len h0] at hlen
          have hjm : j % cc < cc := Nat.mod_lt _ h0
          have hkk : wiF (d (j % cc)).z3 L.length < L.length := wiF_lt hL
          obtain ⟨e, hek⟩ : ∃ e, L[wiF (d (j % cc)).z3 L.length]? = some e := ⟨_, List.getElem?_eq_getElem hkk⟩
          have hec : e < cc := hSK.lt (mem_of_at hek)
          have hsn : sN cc L e ≤ cc + 1 := sN_le
          have HRk := hide (((HF.out.below HB736.out)).row (HAE.out (by omega)) (show (j % cc) < n by omega))
          have HSk := hide (((HF.out.below HB736.out)).all ((j % cc)) (by omega)).sl
          refine region_then fun K741 QK741 hK741 => ?_
          refine s_val hM735 (.inl rfl) rfl rfl (ev_move (.inl rfl) rfl) (fun a743 hM742 => ?_)
          clear hM735
          refine s_call hM742 (.inl rfl) rfl rfl (f := 45) (args := #[.pointer (some ⟨g, 0, none⟩), .int .i64 1, .int .i64 2]) (ev_call hM742 rfl rfl rfl (fun w => by simp [go_sem]) _) (nw_CountK 1 2 ((HZ.out.below HB739.out)).nt (k := L.length) (by rw [KK_12, List.length_map])) (fun e w744 hp => ?_)
          obtain ⟨rfl, rfl⟩ := hp
          refine ⟨_, rfl, fun a747 hM746 => ?_⟩
          clear hM742
          refine s_val hM746 (.inl rfl) rfl rfl (ev_bin rfl rfl rfl g_int (b_gtr (b := true) (by rw [decide_eq_true_eq]; omega))) (fun a749 hM748 => ?_)
          clear hM746
          refine seg_nil (hK741 _ _ ?_)
          clear hK741 K741 QK741
          have hM750 := hM748.cut6 (t1 := 0) (t2 := 3) (t3 := 4) (t4 := 6) (t5 := 7) (t6 := 62) rfl rfl rfl rfl rfl rfl
          clear hM748
          refine wp_cond_true (hM750.ev (t := 62) rfl) ?_
          refine wp_skip ?_
          refine hK740 _ _ ?_
          refine wp_seq_k fun K751 hK751 => ?_
          refine wp_block ?_
          refine q_open (by kernel_rfl) (by kernel_rfl) fun K752 hK752 => ?_
          refine q_val hM750 (.inl rfl) rfl rfl (fun m => (ev_move (.inl rfl) rfl)) (fun a754 hM753 => ?_)
          clear hM750
          refine q_val hM753 (.inl rfl) rfl rfl (fun m => (ev_move (.inl rfl) rfl)) (fun a756 hM755 => ?_)
          clear hM753
          refine q_val hM755 (.inl rfl) rfl rfl (fun m => (ev_move (.inl rfl) rfl)) (fun a758 hM757 => ?_)
          clear hM755
          refine q_val hM757 (.inl rfl) rfl rfl (fun m => (ev_bin rfl rfl rfl g_int (b_rem (a := j) (b := cc) (r := j % cc) rfl rfl h0 rfl (by omega)))) (fun a760 hM759 => ?_)
          clear hM757
          refine q_val hM759 (.inl rfl) rfl rfl (fun m => (ev_idx (b := ba) (off := oa) (k := (j % cc)) (sz := 5) (p := oa + ((j % cc)) * 5) rfl (by rw [← HAE.out (by omega)]; rfl) rfl Try.underlying62 (by kernel_rfl) (by omega) rfl)) (fun a762 hM761 => ?_)
          clear hM759
          refine q_val hM761 (.inl rfl) rfl rfl (fun m => (ev_fldw (m := oa + ((j % cc)) * 5 + 3) rfl rfl (fun w => by simp [go_sem]))) (fun a764 hM763 => ?_)
          clear hM761
          refine q_val hM763 (.inl rfl) rfl rfl (fun m => (ev_load1 (v := .int .i64 ((d ((j % cc))).z3)) rfl rfl (((HRk.out.below HB739.out).below (Wd.below m)).at_ (m := 3) rfl) (isAgg_no Try.underlying3 rfl))) (fun a766 hM765 => ?_)
          clear hM763
          refine q_val hM765 (.inl rfl) rfl rfl (fun m => (ev_move (.inl rfl) rfl)) (fun a768 hM767 => ?_)
          clear hM765
          refine q_call hM767 (.inl rfl) rfl rfl (f := 45) (args := #[.pointer (some ⟨g, 0, none⟩), .int .i64 1, .int .i64 2]) (v := .int .i64 ((L.length : Int))) (ev_call hM767 rfl rfl rfl (fun w => by simp [go_sem])) (fun m => wd_same (nw_CountK 1 2 (((HZ.out.below HB739.out).below (Wd.below m))).nt (k := L.length) (by rw [KK_12, List.length_map]))) (fun a770 hM769 => ?_)
          clear hM767
          refine q_call hM769 (.inl rfl) rfl rfl (f := 18) (args := #[.int .i64 ((d ((j % cc))).z3), .int .i64 ((L.length : Int))]) (v := .int .i64 ((wiF (d (j % cc)).z3 L.length : Int))) (ev_call hM769 rfl rfl rfl (fun w => by simp [go_sem])) (fun m => wd_same (law0_WithinF _ L.length _ hL (by omega))) (fun a772 hM771 => ?_)
          clear hM769
          refine q_val hM771 (.inl rfl) rfl rfl (fun m => (ev_move (.inr rfl) rfl)) (fun a774 hM773 => ?_)
          clear hM771
          refine wpQuiet_nil (hK752 _ fun w775 hb776 => ?_)
          clear hK752 K752
          have HB777 := hide (below_then HB736.out hb776)
          have HB778 := hide (below_then HB739.out hb776)
          clear hb776 HB736 HB739
          have hM779 := hM773.cut6 (t1 := 0) (t2 := 3) (t3 := 4) (t4 := 6) (t5 := 7) (t6 := 8) rfl rfl rfl rfl rfl rfl
          clear hM773
          refine region_then fun K780 QK780 hK780 => ?_
          refine s_val hM779 (.inl rfl) rfl rfl (ev_move (.inl rfl) rfl) (fun a782 hM781 => ?_)
          clear hM779
          refine s_val hM781 (.inl rfl) rfl rfl (ev_move (.inl rfl) rfl) (fun a784 hM783 => ?_)
          clear hM781
          refine s_call hM783 (.inl rfl) rfl rfl (f := 46) (args := #[.pointer (some ⟨g, 0, none⟩), .int .i64 1, .int .i64 2, .int .i64 ((wiF (d (j % cc)).z3 L.length : Int))]) (ev_call hM783 rfl rfl rfl (fun w => by simp [go_sem]) _) (nz_Take_ok (i := (wiF (d (j % cc)).z3 L.length)) (x := xf d e) 1 2 (HZ.out.below HB778.out) (by decide) (by rw [KK_12, List.getElem?_map, hek]; rfl)) (fun e w785 hp => ?_)
          obtain ⟨v1, rfl, ho, hZ⟩ := hp
          obtain ⟨g1, c1, cur1, rfl, _, hk1, hs1, hn1, hc1, hat1⟩ := own_open ho (by rw [xf_len]; omega)
          have HV := hide (Sl.of_own ho)
          have HC1 : Hid (Rng w785 g1 0 #[.int .u8 (e : Int)]) := ⟨hk1.lt, fun q u hq => by
            have hq0 : q = 0 := by have := (Array.getElem?_eq_some_iff.1 hq).1; simpa using this
            subst hq0
            obtain rfl := Option.some.inj hq
            have := hk1.at_ (hat1 0 _ (show (bytes8 (xf d e))[0]? = some (.int .u8 ((UInt8.ofNat e).toNat : Int)) from rfl))
            rw [u8_of (by omega)] at this
            exact this⟩
          have hxl : (xf d e).length = (d e).bs.length + 1 := rfl
          clear ho hk1 hat1 hs1 HRk HSk
          have HZ_ : Hid (NtZ w w785 g (KK ((L.eraseIdx (wiF (d (j % cc)).z3 L.length)).map (xf d)) ((List.range cc).map kb)) g709 70 (seenC cc L)) := by
            have h := hZ
            rw [KK_12, KK_u12, ← ChangeMaps.map_eraseIdx] at h
            exact h
          clear hZ HZ HB777 HB778 
          have HZ := HZ_
          clear HZ_
          have HB789 := hide HZ.out.old
          have HB791 : Hid (Below w785.heap.size w785 w785) := Below.refl _ _
          have HRe := hide (((HF.out.below HB789.out)).row (HAE.out (by omega)) (show e < n by omega))
          have HSe := hide (((HF.out.below HB789.out)).all e (by omega)).sl
          have hde := HL.out e (by omega) (by omega)
          have hbe : (d e).bs.length = (d e).n := (HSe.out.below HB791.out).blen
          refine ⟨_, rfl, fun a788 hM787 => ?_⟩
          clear hM783
          refine s_val hM787 (.inl rfl) rfl rfl (ev_move (.inl rfl) rfl) (fun a793 hM792 => ?_)
          clear hM787
          refine s_val hM792 (.inl rfl) rfl rfl (ev_ext (v := .slice ((some ⟨g1, 0, none⟩)) ((xf d e).length) c1) rfl rfl rfl) (fun a795 hM794 => ?_)
          clear hM792
          refine s_val hM794 (.inl rfl) rfl rfl (ev_ext (v := .int .i64 0) rfl rfl rfl) (fun a797 hM796 => ?_)
          clear hM794
          refine s_val hM796 (.inl rfl) rfl rfl (ev_move (.inr rfl) rfl) (fun a799 hM798 => ?_)
          clear hM796
          refine s_val hM798 (.inl rfl) rfl rfl (ev_move (.inr rfl) rfl) (fun a801 hM800 => ?_)
          clear hM798
          refine seg_nil (hK780 _ _ ?_)
          clear hK780 K780 QK780
          have hM802 := hM800.cut7 (t1 := 0) (t2 := 3) (t3 := 4) (t4 := 6) (t5 := 7) (t6 := 9) (t7 := 10) rfl rfl rfl rfl rfl rfl rfl
          clear hM800
          refine wp_seq_k fun K803 hK803 => ?_
          refine q_open (by kernel_rfl) (by kernel_rfl) fun K804 hK804 => ?_
          refine q_val hM802 (.inl rfl) rfl rfl (fun m => (ev_move (.inl rfl) rfl)) (fun a806 hM805 => ?_)
          clear hM802
          refine q_call hM805 (.inl rfl) rfl rfl (f := 42) (args := #[.int .i64 0]) (v := .int .i64 0) (ev_call hM805 rfl rfl rfl (fun w => by simp [go_sem])) (fun m => wd_same (law12_num _ _)) (fun a808 hM807 => ?_)
          clear hM805
          refine q_val hM807 (.inl rfl) rfl rfl (fun m => (ev_bin rfl rfl rfl g_int (b_neq (b := false) (by decide)))) (fun a810 hM809 => ?_)
          clear hM807
          refine q_val hM809 (.inl rfl) rfl rfl (fun m => (ev_move (.inl rfl) rfl)) (fun a812 hM811 => ?_)
          clear hM809
          refine q_val hM811 (.inr ⟨_, _, _, rfl, rfl, rfl⟩) rfl rfl (fun m => (ev_move (.inl rfl) rfl)) (fun a814 hM813 => ?_)
          clear hM811
          refine q_val hM813 (.inr ⟨_, _, _, rfl, rfl, rfl⟩) rfl rfl (fun m => (ev_len rfl rfl Try.underlying28)) (fun a816 hM815 => ?_)
          clear hM813
          refine q_val hM815 (.inr ⟨_, _, _, rfl, rfl, rfl⟩) rfl rfl (fun m => (ev_bin rfl rfl rfl g_int (b_eql (b := false) (by rw [decide_eq_false_iff_not]; omega)))) (fun a818 hM817 => ?_)
          clear hM815
          refine q_val hM817 (.inl rfl) rfl rfl (fun m => (ev_pick rfl rfl rfl)) (fun a820 hM819 => ?_)
          clear hM817
          refine q_val hM819 (.inl rfl) rfl rfl (fun m => (ev_move (.inl rfl) rfl)) (fun a822 hM821 => ?_)
          clear hM819
          refine q_val hM821 (.inr ⟨_, _, _, rfl, rfl, rfl⟩) rfl rfl (fun m => (ev_move (.inl rfl) rfl)) (fun a824 hM823 => ?_)
          clear hM821
          refine q_val hM823 (.inr ⟨_, _, _, rfl, rfl, rfl⟩) rfl rfl (fun m => (ev_idx (b := g1) (k := 0) (sz := 1) (p := 0) rfl rfl rfl Try.underlying28 (by kernel_rfl) (by omega) (by first | rfl | omega))) (fun a826 hM825 => ?_)
          clear hM823
          refine q_val hM825 (.inr ⟨_, _, _, rfl, rfl, rfl⟩) rfl rfl (fun m => (ev_load1 (v := .int .u8 (e : Int)) rfl rfl (((HC1.out.below HB791.out).below (Wd.below m)).at_ (m := 0) rfl) (isAgg_no Try.underlying5 rfl))) (fun a828 hM827 => ?_)
          clear hM825
          refine q_val hM827 (.inr ⟨_, _, _, rfl, rfl, rfl⟩) rfl rfl (fun m => (ev_conv81 (z := e) rfl rfl Try.underlying5 Try.underlying3 (by omega))) (fun a830 hM829 => ?_)
          clear hM827
          refine q_val hM829 (.inr ⟨_, _, _, rfl, rfl, rfl⟩) rfl rfl (fun m => (ev_move (.inl rfl) rfl)) (fun a832 hM831 => ?_)
          clear hM829
          refine q_val hM831 (.inr ⟨_, _, _, rfl, rfl, rfl⟩) rfl rfl (fun m => (ev_bin rfl rfl rfl g_int (b_geq (b := false) (by rw [decide_eq_false_iff_not]; omega)))) (fun a834 hM833 => ?_)
          clear hM831
          refine q_val hM833 (.inl rfl) rfl rfl (fun m => (ev_pick rfl rfl rfl)) (fun a836 hM835 => ?_)
          clear hM833
          refine q_val hM835 (.inl rfl) rfl rfl (fun m => (ev_move (.inl rfl) rfl)) (fun a838 hM837 => ?_)
          clear hM835
          refine q_val hM837 (.inr ⟨_, _, _, rfl, rfl, rfl⟩) rfl rfl (fun m => (ev_move (.inl rfl) rfl)) (fun a840 hM839 => ?_)
          clear hM837
          refine q_val hM839 (.inr ⟨_, _, _, rfl, rfl, rfl⟩) rfl rfl (fun m => (ev_slice_l (k := 1) rfl rfl rfl (by kernel_rfl) (fun w => by kernel_rfl) (by omega))) (fun a842 hM841 => ?_)
          clear hM839
          refine q_val hM841 (.inr ⟨_, _, _, rfl, rfl, rfl⟩) rfl rfl (fun m => (ev_move (.inl rfl) rfl)) (fun a844 hM843 => ?_)
          clear hM841
          refine q_val hM843 (.inr ⟨_, _, _, rfl, rfl, rfl⟩) rfl rfl (fun m => (ev_move (.inl rfl) rfl)) (fun a846 hM845 => ?_)
          clear hM843
          refine q_val hM845 (.inr ⟨_, _, _, rfl, rfl, rfl⟩) rfl rfl (fun m => (ev_idx (b := g1) (k := 0) (sz := 1) (p := 0) rfl rfl rfl Try.underlying28 (by kernel_rfl) (by omega) (by first | rfl | omega))) (fun a848 hM847 => ?_)
          clear hM845
          refine q_val hM847 (.inr ⟨_, _, _, rfl, rfl, rfl⟩) rfl rfl (fun m => (ev_load1 (v := .int .u8 (e : Int)) rfl rfl (((HC1.out.below HB791.out).below (Wd.below m)).at_ (m := 0) rfl) (isAgg_no Try.underlying5 rfl))) (fun a850 hM849 => ?_)
          clear hM847
          refine q_val hM849 (.inr ⟨_, _, _, rfl, rfl, rfl⟩) rfl rfl (fun m => (ev_idxk (b := ba) (off := oa) (k := e) (sz := 5) (p := oa + e * 5) rfl (by rw [← HAE.out (by omega)]; rfl) rfl Try.underlying62 (by kernel_rfl) (by omega) rfl)) (fun a852 hM851 => ?_)
          clear hM849
          refine q_val hM851 (.inr ⟨_, _, _, rfl, rfl, rfl⟩) rfl rfl (fun m => (ev_fldw (m := oa + e * 5 + 4) rfl rfl (fun w => by simp [go_sem]))) (fun a854 hM853 => ?_)
          clear hM851
          refine q_val hM853 (.inr ⟨_, _, _, rfl, rfl, rfl⟩) rfl rfl (fun m => (ev_load1 (v := .slice ((d e).A) ((d e).n) ((d e).c)) rfl rfl (((HRe.out.below HB791.out).below (Wd.below m)).at_ (m := 4) rfl) (isAgg_no Try.underlying28 rfl))) (fun a856 hM855 => ?_)
          clear hM853
          refine q_call hM855 (.inr ⟨_, _, _, rfl, rfl, rfl⟩) rfl rfl (f := 26) (args := #[.slice ((dropA (some ⟨g1, 0, none⟩) c1 1)) (((xf d e).length - 1)) ((c1 - 1)), .slice ((d e).A) ((d e).n) ((d e).c)]) (v := .bool true) (ev_call hM855 rfl rfl rfl (fun w => by simp [go_sem])) (fun m => wd_call (eqBytes_b (xs := (d e).bs) (ys := (d e).bs) _ (Sl.dropb (W := xf d e) ((HV.out.below HB791.out).below (Wd.below m)) (by omega) hn1) (by omega) ((HSe.out.below HB791.out).below (Wd.below m)) (by omega) (r := true) (beq_self_eq_true (d e).bs))) (fun a858 hM857 => ?_)
          clear hM855
          refine q_val hM857 (.inr ⟨_, _, _, rfl, rfl, rfl⟩) rfl rfl (fun m => (ev_not rfl rfl rfl)) (fun a860 hM859 => ?_)
          clear hM857
          refine q_val hM859 (.inl rfl) rfl rfl (fun m => (ev_pick rfl rfl rfl)) (fun a862 hM861 => ?_)
          clear hM859
          refine q_val hM861 (.inl rfl) rfl rfl (fun m => (ev_move (.inl rfl) rfl)) (fun a864 hM863 => ?_)
          clear hM861
          refine q_val hM863 (.inr ⟨_, _, _, rfl, rfl, rfl⟩) rfl rfl (fun m => (ev_move (.inl rfl) rfl)) (fun a866 hM865 => ?_)
          clear hM863
          refine q_val hM865 (.inr ⟨_, _, _, rfl, rfl, rfl⟩) rfl rfl (fun m => (ev_move (.inl rfl) rfl)) (fun a868 hM867 => ?_)
          clear hM865
          refine q_val hM867 (.inr ⟨_, _, _, rfl, rfl, rfl⟩) rfl rfl (fun m => (ev_bin rfl rfl rfl g_int (b_mul (r := ((2 * cc : Nat) : Int)) (by omega) (by omega)))) (fun a870 hM869 => ?_)
          clear hM867
          refine q_val hM869 (.inr ⟨_, _, _, rfl, rfl, rfl⟩) rfl rfl (fun m => (ev_bin rfl rfl rfl g_int (b_gtr (b := false) (by rw [decide_eq_false_iff_not]; omega)))) (fun a872 hM871 => ?_)
          clear hM869
          refine q_val hM871 (.inl rfl) rfl rfl (fun m => (ev_pick rfl rfl rfl)) (fun a874 hM873 => ?_)
          clear hM871
          refine wpQuiet_nil (hK804 _ fun w875 hb876 => ?_)
          clear hK804 K804
          have HB877 := hide (below_then HB789.out hb876)
          have HB878 := hide (below_then HB791.out hb876)
          clear hb876 HB789 HB791
          have hM879 := hM873.cut7 (t1 := 0) (t2 := 3) (t3 := 4) (t4 := 6) (t5 := 7) (t6 := 9) (t7 := 115) rfl rfl rfl rfl rfl rfl rfl
          clear hM873
          refine wp_cond_false (hM879.ev (t := 115) rfl) ?_
          refine wp_skip ?_
          refine hK803 _ _ ?_
          refine region_last fun K880 QK880 hK880 => ?_
          refine s_val hM879 (.inl rfl) rfl rfl (ev_move (.inl rfl) rfl) (fun a882 hM881 => ?_)
          clear hM879
          refine s_val hM881 (.inl rfl) rfl rfl (ev_idx (b := g1) (k := 0) (sz := 1) (p := 0) rfl rfl rfl Try.underlying28 (by kernel_rfl) (by omega) (by first | rfl | omega)) (fun a884 hM883 => ?_)
          clear hM881
          refine s_val hM883 (.inl rfl) rfl rfl (ev_load1 (v := .int .u8 (e : Int)) rfl rfl ((HC1.out.below HB878.out).at_ (m := 0) rfl) (isAgg_no Try.underlying5 rfl)) (fun a886 hM885 => ?_)
          clear hM883
          refine s_val hM885 (.inl rfl) rfl rfl (ev_idxa (b := g709) (off := 0) (m := 40) (k := e) (sz := 1) (p := e) rfl rfl rfl Try.underlying70 (by kernel_rfl) (by omega) (by omega)) (fun a888 hM887 => ?_)
          clear hM885
          refine s_val hM887 (.inl rfl) rfl rfl (ev_load1 (v := .int .i64 (sN cc L e : Int)) rfl rfl (((HZ.out.below HB878.out)).blk.at_ (seenC_at (by omega))) (isAgg_no Try.underlying3 rfl)) (fun a890 hM889 => ?_)
          clear hM887
          refine s_val hM889 (.inl rfl) rfl rfl (ev_bin rfl rfl rfl g_int (b_add (r := ((sN cc L e + 1 : Nat) : Int)) (by omega) (by omega))) (fun a892 hM891 => ?_)
          clear hM889
          refine s_val hM891 (.inl rfl) rfl rfl (ev_idxa (b := g709) (off := 0) (m := 40) (k := e) (sz := 1) (p := e) rfl rfl rfl Try.underlying70 (by kernel_rfl) (by omega) (by omega)) (fun a894 hM893 => ?_)
          clear hM891
          have hz := (HZ.out.below HB878.out)
          refine s_put (v := .int .i64 ((sN cc L e + 1 : Nat) : Int)) hM893 rfl rfl rfl rfl rfl hz.blk (by simp only [seenC, Array.size_ofFn]; omega) (st_int Try.underlying3 (by kernel_rfl)) (fun w895 kd hg => ?_)
          rw [seenC_set hSK hek] at kd
          have HZ_ := hide (hz.put kd hg)
          clear hz kd hg HZ HV HC1 HRe HSe HB877 HB878
          have HZ := HZ_
          clear HZ_
          have HB896 := hide HZ.out.old
          have HB898 : Hid (Below w895.heap.size w895 w895) := Below.refl _ _
          refine seg_nil (hK880 _ _ ?_)
          clear hK880 K880 QK880
          have hM899 := hM893.cut5 (t1 := 0) (t2 := 3) (t3 := 4) (t4 := 6) (t5 := 7) rfl rfl rfl rfl rfl
          clear hM893
          refine inb_n ?_
          refine hK751 _ _ ?_
          refine region_last fun K900 QK900 hK900 => ?_
          refine s_val hM899 (.inl rfl) rfl rfl (ev_move (.inl rfl) rfl) (fun a902 hM901 => ?_)
          clear hM899
          refine s_val hM901 (.inl rfl) rfl rfl (ev_bin rfl rfl rfl g_int (b_add (r := ((j + 1 : Nat) : Int)) (by omega) (by omega))) (fun a904 hM903 => ?_)
          clear hM901
          refine s_val hM903 (.inl rfl) rfl rfl (ev_move (.inr rfl) rfl) (fun a906 hM905 => ?_)
          clear hM903
          refine seg_nil (hK900 _ _ ?_)
          clear hK900 K900 QK900
          have hM907 := hM905.cut5 (t1 := 0) (t2 := 3) (t3 := 4) (t4 := 6) (t5 := 7) rfl rfl rfl rfl rfl
          clear hM905
          have hM908 := hM907.cut5 (t1 := 7) (t2 := 0) (t3 := 3) (t4 := 4) (t5 := 6) rfl rfl rfl rfl rfl
          clear hM907
          exact ⟨(cc + 1) - (j + 1), by omega, j + 1, (L.eraseIdx (wiF (d (j % cc)).z3 L.length)), rfl, hM908, HB896, (hide (HZ.out.below HB898.out)), hSK.next hek⟩
        case neg =>
          refine region_then fun K909 QK909 hK909 => ?_
          refine s_val hM735 (.inl rfl) rfl rfl (ev_move (.inl rfl) rfl) (fun a911 hM910 => ?_)
          clear hM735
          refine s_call hM910 (.inl rfl) rfl rfl (f := 45) (args := #[.pointer (some ⟨g, 0, none⟩), .int .i64 1, .int .i64 2]) (ev_call hM910 rfl rfl rfl (fun w => by simp [go_sem]) _) (nw_CountK 1 2 ((HZ.out.below HB739.out)).nt (k := L.length) (by rw [KK_12, List.length_map])) (fun e w912 hp => ?_)
          obtain ⟨rfl, rfl⟩ := hp
          refine ⟨_, rfl, fun a915 hM914 => ?_⟩
          clear hM910
          refine s_val hM914 (.inl rfl) rfl rfl (ev_bin rfl rfl rfl g_int (b_gtr (b := false) (by rw [decide_eq_false_iff_not]; omega))) (fun a917 hM916 => ?_)
          clear hM914
          refine seg_nil (hK909 _ _ ?_)
          clear hK909 K909 QK909
          have hM918 := hM916.cut6 (t1 := 0) (t2 := 3) (t3 := 4) (t4 := 6) (t5 := 7) (t6 := 62) rfl rfl rfl rfl rfl rfl
          clear hM916
          refine wp_cond_false (hM918.ev (t := 62) rfl) ?_
          refine wp_exit ?_
          repeat (with_reducible refine th_e ?_)
          refine inb_e ?_
          refine hK727 _ _ ?_
          refine wp_seq_k fun K919 hK919 => ?_
          refine region_then fun K920 QK920 hK920 => ?_
          refine s_val hM918 (.inl rfl) rfl rfl (ev_move (.inr rfl) rfl) (fun a922 hM921 => ?_)
          clear hM918
          refine seg_nil (hK920 _ _ ?_)
          clear hK920 K920 QK920
          have hM923 := hM921.cut4 (t1 := 3) (t2 := 4) (t3 := 6) (t4 := 11) rfl rfl rfl rfl
          clear hM921
          obtain rfl : L = [] := List.eq_nil_of_length_eq_zero (by omega)
          clear hSK hL
          have HZ0 : Hid (NtZ w w733 g (KK ([]) (((List.range cc).drop 0).map kb)) g709 70 (seenC cc [])) := (HZ.out.below HB739.out)
          clear HZ
          have HZ := HZ0
          clear HZ0
          have HJ : Hid (0 ≤ cc) := Nat.zero_le _
          have hM924 := hM923.cut4 (t1 := 11) (t2 := 3) (t3 := 4) (t4 := 6) rfl rfl rfl rfl
          clear hM923
          refine wp_block ?_
          refine wp_loop_ghost (fun m a w' => ∃ (i4 : Nat), m = cc - i4 ∧ Frm a 169 [(11, .int .i64 (i4 : Int)), (3, .pointer (some ⟨g, 0, none⟩)), (4, .int .i64 ((cc : Int))), (6, .pointer (some ⟨g709, 0, none⟩))] ∧ Hid (Below w.heap.size w w') ∧ Hid (NtZ w w' g (KK ([]) (((List.range cc).drop i4).map kb)) g709 70 (seenC cc [])) ∧ Hid (i4 ≤ cc)) cc ⟨0,  by omega, hM924, HB736, HZ, HJ⟩ ?_
          clear HB736 HB739 hM924 HZ HJ
          rintro m929 a926 w925 ⟨i4, rfl, hM927, HB928, HZ, HJ⟩
          have HB931 : Hid (Below w925.heap.size w925 w925) := Below.refl _ _
          refine wp_seq_k fun K932 hK932 => ?_
          by_cases hl4 : i4 < cc
          case pos =>
            have hs4 := sN_nil hl4
            refine region_then fun K933 QK933 hK933 => ?_
            refine s_val hM927 (.inl rfl) rfl rfl (ev_move (.inl rfl) rfl) (fun a935 hM934 => ?_)
            clear hM927
            refine s_val hM934 (.inl rfl) rfl rfl (ev_move (.inl rfl) rfl) (fun a937 hM936 => ?_)
            clear hM934
            refine s_val hM936 (.inl rfl) rfl rfl (ev_bin rfl rfl rfl g_int (b_lss (b := true) (by rw [decide_eq_true_eq]; omega))) (fun a939 hM938 => ?_)
            clear hM936
            refine seg_nil (hK933 _ _ ?_)
            clear hK933 K933 QK933
            have hM940 := hM938.cut5 (t1 := 3) (t2 := 4) (t3 := 6) (t4 := 11) (t5 := 125) rfl rfl rfl rfl rfl
            clear hM938
            refine wp_cond_true (hM940.ev (t := 125) rfl) ?_
            refine wp_skip ?_
            refine hK932 _ _ ?_
            refine wp_seq_k fun K941 hK941 => ?_
            refine wp_block ?_
            refine region_then fun K942 QK942 hK942 => ?_
            refine s_val hM940 (.inl rfl) rfl rfl (ev_move (.inr rfl) rfl) (fun a944 hM943 => ?_)
            clear hM940
            refine seg_nil (hK942 _ _ ?_)
            clear hK942 K942 QK942
            have hM945 := hM943.cut5 (t1 := 3) (t2 := 4) (t3 := 6) (t4 := 11) (t5 := 12) rfl rfl rfl rfl rfl
            clear hM943
            refine wp_seq_k fun K946 hK946 => ?_
            by_cases hz4 : i4 = 0
            case pos =>
              rw [if_pos hz4] at hs4
              refine region_then fun K947 QK947 hK947 => ?_
              refine s_val hM945 (.inl rfl) rfl rfl (ev_move (.inl rfl) rfl) (fun a949 hM948 => ?_)
              clear hM945
              refine s_val hM948 (.inl rfl) rfl rfl (ev_bin rfl rfl rfl g_int (b_eql (b := true) (by rw [decide_eq_true_eq]; omega))) (fun a951 hM950 => ?_)
              clear hM948
              refine seg_nil (hK947 _ _ ?_)
              clear hK947 K947 QK947
              have hM952 := hM950.cut6 (t1 := 3) (t2 := 4) (t3 := 6) (t4 := 11) (t5 := 12) (t6 := 129) rfl rfl rfl rfl rfl rfl
              clear hM950
              refine wp_cond_true (hM952.ev (t := 129) rfl) ?_
              refine region_last fun K953 QK953 hK953 => ?_
              refine s_val hM952 (.inl rfl) rfl rfl (ev_move (.inr rfl) rfl) (fun a955 hM954 => ?_)
              clear hM952
              refine seg_nil (hK953 _ _ ?_)
              clear hK953 K953 QK953
              have hM956 := hM954.cut5 (t1 := 3) (t2 := 4) (t3 := 6) (t4 := 11) (t5 := 12) rfl rfl rfl rfl rfl
              clear hM954
              refine hK946 _ _ ?_
              refine region_then fun K957 QK957 hK957 => ?_
              refine s_val hM956 (.inl rfl) rfl rfl (ev_move (.inl rfl) rfl) (fun a959 hM958 => ?_)
              clear hM956
              refine s_call hM958 (.inl rfl) rfl rfl (f := 46) (args := #[.pointer (some ⟨g, 0, none⟩), .int .i64 2, .int .i64 1, .int .i64 0]) (ev_call hM958 rfl rfl rfl (fun w => by simp [go_sem]) _) (nz_Take_ok (i := 0) (x := kb i4) 2 1 (HZ.out.below HB931.out) (by decide) (by rw [KK_21, List.getElem?_map, List.getElem?_drop, List.getElem?_range (by omega)]; rfl)) (fun e w960 hp => ?_)
              obtain ⟨v1, rfl, ho, hZ⟩ := hp
              obtain ⟨A1, c1, rfl⟩ := own_slice ho
              have HV := hide (Sl.of_own ho)
              clear ho
              have HZ_ : Hid (NtZ w w960 g (KK ([]) (((List.range cc).drop (i4 + 1)).map kb)) g709 70 (seenC cc [])) := by
                have h := hZ
                rw [KK_21, KK_u21, drop_erase kb] at h
                exact h
              clear hZ HZ HB928 HB931 
              have HZ := HZ_
              clear HZ_
              have HB964 := hide HZ.out.old
              have HB966 : Hid (Below w960.heap.size w960 w960) := Below.refl _ _
              refine ⟨_, rfl, fun a963 hM962 => ?_⟩
              clear hM958
              refine s_val hM962 (.inl rfl) rfl rfl (ev_move (.inl rfl) rfl) (fun a968 hM967 => ?_)
              clear hM962
              refine s_val hM967 (.inl rfl) rfl rfl (ev_ext (v := .slice A1 ((kb i4).length) c1) rfl rfl rfl) (fun a970 hM969 => ?_)
              clear hM967
              refine s_val hM969 (.inl rfl) rfl rfl (ev_ext (v := .int .i64 0) rfl rfl rfl) (fun a972 hM971 => ?_)
              clear hM969
              refine s_val hM971 (.inl rfl) rfl rfl (ev_move (.inr rfl) rfl) (fun a974 hM973 => ?_)
              clear hM971
              refine s_val hM973 (.inl rfl) rfl rfl (ev_move (.inr rfl) rfl) (fun a976 hM975 => ?_)
              clear hM973
              refine seg_nil (hK957 _ _ ?_)
              clear hK957 K957 QK957
              have hM977 := hM975.cut7 (t1 := 3) (t2 := 4) (t3 := 6) (t4 := 11) (t5 := 12) (t6 := 13) (t7 := 14) rfl rfl rfl rfl rfl rfl rfl
              clear hM975
              refine region_then fun K978 QK978 hK978 => ?_
              refine s_val hM977 (.inl rfl) rfl rfl (ev_move (.inl rfl) rfl) (fun a980 hM979 => ?_)
              clear hM977
              refine s_val hM979 (.inl rfl) rfl rfl (ev_idxa (b := g709) (off := 0) (m := 40) (k := i4) (sz := 1) (p := i4) rfl rfl rfl Try.underlying70 (by kernel_rfl) (by omega) (by omega)) (fun a982 hM981 => ?_)
              clear hM979
              refine s_val hM981 (.inl rfl) rfl rfl (ev_load1 (v := .int .i64 (sN cc [] i4 : Int)) rfl rfl (((HZ.out.below HB966.out)).blk.at_ (seenC_at (by omega))) (isAgg_no Try.underlying3 rfl)) (fun a984 hM983 => ?_)
              clear hM981
              refine s_val hM983 (.inl rfl) rfl rfl (ev_move (.inl rfl) rfl) (fun a986 hM985 => ?_)
              clear hM983
              refine s_val hM985 (.inl rfl) rfl rfl (ev_bin rfl rfl rfl g_int (b_neq (b := false) (by rw [decide_eq_false_iff_not]; omega))) (fun a988 hM987 => ?_)
              clear hM985
              refine s_val hM987 (.inl rfl) rfl rfl (ev_move (.inl rfl) rfl) (fun a990 hM989 => ?_)
              clear hM987
              refine s_val hM989 (.inr ⟨_, _, _, rfl, rfl, rfl⟩) rfl rfl (ev_move (.inl rfl) rfl) (fun a992 hM991 => ?_)
              clear hM989
              refine s_call hM991 (.inr ⟨_, _, _, rfl, rfl, rfl⟩) rfl rfl (f := 42) (args := #[.int .i64 0]) (ev_call hM991 rfl rfl rfl (fun w => by simp [go_sem]) _) (law12_num _ _) (fun e w993 hp => ?_)
              obtain ⟨rfl, rfl⟩ := hp
              refine ⟨_, rfl, fun a996 hM995 => ?_⟩
              clear hM991
              refine s_val hM995 (.inr ⟨_, _, _, rfl, rfl, rfl⟩) rfl rfl (ev_bin rfl rfl rfl g_int (b_neq (b := false) (by decide))) (fun a998 hM997 => ?_)
              clear hM995
              refine s_val hM997 (.inl rfl) rfl rfl (ev_pick rfl rfl rfl) (fun a1000 hM999 => ?_)
              clear hM997
              refine s_val hM999 (.inl rfl) rfl rfl (ev_move (.inl rfl) rfl) (fun a1002 hM1001 => ?_)
              clear hM999
              refine s_val hM1001 (.inr ⟨_, _, _, rfl, rfl, rfl⟩) rfl rfl (ev_move (.inl rfl) rfl) (fun a1004 hM1003 => ?_)
              clear hM1001
              refine s_val hM1003 (.inr ⟨_, _, _, rfl, rfl, rfl⟩) rfl rfl (ev_move (.inl rfl) rfl) (fun a1006 hM1005 => ?_)
              clear hM1003
              refine s_val hM1005 (.inr ⟨_, _, _, rfl, rfl, rfl⟩) rfl rfl (ev_conv8j (j := i4) rfl rfl Try.underlying3 Try.underlying5) (fun a1008 hM1007 => ?_)
              clear hM1005
              refine s_alloc (e := 5) hM1007 (.inr ⟨_, _, _, rfl, rfl, rfl⟩) rfl rfl (V := fun g => .slice (some ⟨g, 0, none⟩) 1 1) (ev_bsl hM1007 rfl rfl (fun w => by kernel_rfl)) (fun g1009 a1015 w1010 hM1014 KB1013_ hb1011 hg1012 => ?_)
              have KB1013 := hide KB1013_
              clear hM1007 KB1013_
              have lo1016 := hide (Nat.le_trans HB964.out.size hg1012)
              have lo1017 := hide (Nat.le_trans HB966.out.size hg1012)
              clear hg1012
              have HB1018 := hide (below_then HB964.out hb1011)
              have HB1019 := hide (below_then HB966.out hb1011)
              clear hb1011 HB964 HB966
              have HB1021 : Hid (Below w1010.heap.size w1010 w1010) := Below.refl _ _
              refine s_call hM1014 (.inr ⟨_, _, _, rfl, rfl, rfl⟩) rfl rfl (f := 26) (args := #[.slice A1 ((kb i4).length) c1, .slice ((some ⟨g1009, 0, none⟩)) 1 1]) (ev_call hM1014 rfl rfl rfl (fun w => by simp [go_sem]) _) (eqBytes_b (xs := kb i4) (ys := kb i4) _ (HV.out.below HB1019.out) (by show 1 ≤ _; omega) (Sl.of_blk (size := 1) (n := 1) (KB1013.out.on HB1021.out) rfl) (by omega) (r := true) (beq_self_eq_true (kb i4))) (fun e w1022 hp => ?_)
              obtain ⟨rfl, hb1023⟩ := hp
              refine ⟨_, rfl, fun a1025 hM1024 => ?_⟩
              clear hM1014
              have HB1026 := hide (below_then HB1018.out hb1023)
              have HB1027 := hide (below_then HB1019.out hb1023)
              have HB1028 := hide (below_then HB1021.out hb1023)
              clear hb1023 HB1018 HB1019 HB1021
              refine s_val hM1024 (.inr ⟨_, _, _, rfl, rfl, rfl⟩) rfl rfl (ev_not rfl rfl rfl) (fun a1030 hM1029 => ?_)
              clear hM1024
              refine s_val hM1029 (.inl rfl) rfl rfl (ev_pick rfl rfl rfl) (fun a1032 hM1031 => ?_)
              clear hM1029
              refine seg_nil (hK978 _ _ ?_)
              clear hK978 K978 QK978
              have hM1033 := hM1031.cut5 (t1 := 3) (t2 := 4) (t3 := 6) (t4 := 11) (t5 := 152) rfl rfl rfl rfl rfl
              clear hM1031
              refine wp_cond_false (hM1033.ev (t := 152) rfl) ?_
              refine wp_skip ?_
              refine inb_n ?_
              refine hK941 _ _ ?_
              refine region_last fun K1034 QK1034 hK1034 => ?_
              refine s_val hM1033 (.inl rfl) rfl rfl (ev_move (.inl rfl) rfl) (fun a1036 hM1035 => ?_)
              clear hM1033
              refine s_val hM1035 (.inl rfl) rfl rfl (ev_bin rfl rfl rfl g_int (b_add (r := ((i4 + 1 : Nat) : Int)) (by omega) (by omega))) (fun a1038 hM1037 => ?_)
              clear hM1035
              refine s_val hM1037 (.inl rfl) rfl rfl (ev_move (.inr rfl) rfl) (fun a1040 hM1039 => ?_)
              clear hM1037
              refine seg_nil (hK1034 _ _ ?_)
              clear hK1034 K1034 QK1034
              have hM1041 := hM1039.cut4 (t1 := 3) (t2 := 4) (t3 := 6) (t4 := 11) rfl rfl rfl rfl
              clear hM1039
              have hM1042 := hM1041.cut4 (t1 := 11) (t2 := 3) (t3 := 4) (t4 := 6) rfl rfl rfl rfl
              clear hM1041
              exact ⟨cc - (i4 + 1), by omega, i4 + 1, rfl, hM1042, HB1026, (hide (HZ.out.below HB1027.out)), (show Hid (i4 + 1 ≤ cc) from hl4)⟩
            case neg =>
              rw [if_neg hz4] at hs4
              refine region_then fun K1043 QK1043 hK1043 => ?_
              refine s_val hM945 (.inl rfl) rfl rfl (ev_move (.inl rfl) rfl) (fun a1045 hM1044 => ?_)
              clear hM945
              refine s_val hM1044 (.inl rfl) rfl rfl (ev_bin rfl rfl rfl g_int (b_eql (b := false) (by rw [decide_eq_false_iff_not]; omega))) (fun a1047 hM1046 => ?_)
              clear hM1044
              refine seg_nil (hK1043 _ _ ?_)
              clear hK1043 K1043 QK1043
              have hM1048 := hM1046.cut6 (t1 := 3) (t2 := 4) (t3 := 6) (t4 := 11) (t5 := 12) (t6 := 129) rfl rfl rfl rfl rfl rfl
              clear hM1046
              refine wp_cond_false (hM1048.ev (t := 129) rfl) ?_
              refine wp_skip ?_
              refine hK946 _ _ ?_
              refine region_then fun K1049 QK1049 hK1049 => ?_
              refine s_val hM1048 (.inl rfl) rfl rfl (ev_move (.inl rfl) rfl) (fun a1051 hM1050 => ?_)
              clear hM1048
              refine s_call hM1050 (.inl rfl) rfl rfl (f := 46) (args := #[.pointer (some ⟨g, 0, none⟩), .int .i64 2, .int .i64 1, .int .i64 0]) (ev_call hM1050 rfl rfl rfl (fun w => by simp [go_sem]) _) (nz_Take_ok (i := 0) (x := kb i4) 2 1 (HZ.out.below HB931.out) (by decide) (by rw [KK_21, List.getElem?_map, List.getElem?_drop, List.getElem?_range (by omega)]; rfl)) (fun e w1052 hp => ?_)
              obtain ⟨v1, rfl, ho, hZ⟩ := hp
              obtain ⟨A1, c1, rfl⟩ := own_slice ho
              have HV := hide (Sl.of_own ho)
              clear ho
              have HZ_ : Hid (NtZ w w1052 g (KK ([]) (((List.range cc).drop (i4 + 1)).map kb)) g709 70 (seenC cc [])) := by
                have h := hZ
                rw [KK_21, KK_u21, drop_erase kb] at h
                exact h
              clear hZ HZ HB928 HB931 
              have HZ := HZ_
              clear HZ_
              have HB1056 := hide HZ.out.old
              have HB1058 : Hid (Below w1052.heap.size w1052 w1052) := Below.refl _ _
              refine ⟨_, rfl, fun a1055 hM1054 => ?_⟩
              clear hM1050
              refine s_val hM1054 (.inl rfl) rfl rfl (ev_move (.inl rfl) rfl) (fun a1060 hM1059 => ?_)
              clear hM1054
              refine s_val hM1059 (.inl rfl) rfl rfl (ev_ext (v := .slice A1 ((kb i4).length) c1) rfl rfl rfl) (fun a1062 hM1061 => ?_)
              clear hM1059
              refine s_val hM1061 (.inl rfl) rfl rfl (ev_ext (v := .int .i64 0) rfl rfl rfl) (fun a1064 hM1063 => ?_)
              clear hM1061
              refine s_val hM1063 (.inl rfl) rfl rfl (ev_move (.inr rfl) rfl) (fun a1066 hM1065 => ?_)
              clear hM1063
              refine s_val hM1065 (.inl rfl) rfl rfl (ev_move (.inr rfl) rfl) (fun a1068 hM1067 => ?_)
              clear hM1065
              refine seg_nil (hK1049 _ _ ?_)
              clear hK1049 K1049 QK1049
              have hM1069 := hM1067.cut7 (t1 := 3) (t2 := 4) (t3 := 6) (t4 := 11) (t5 := 12) (t6 := 13) (t7 := 14) rfl rfl rfl rfl rfl rfl rfl
              clear hM1067
              refine region_then fun K1070 QK1070 hK1070 => ?_
              refine s_val hM1069 (.inl rfl) rfl rfl (ev_move (.inl rfl) rfl) (fun a1072 hM1071 => ?_)
              clear hM1069
              refine s_val hM1071 (.inl rfl) rfl rfl (ev_idxa (b := g709) (off := 0) (m := 40) (k := i4) (sz := 1) (p := i4) rfl rfl rfl Try.underlying70 (by kernel_rfl) (by omega) (by omega)) (fun a1074 hM1073 => ?_)
              clear hM1071
              refine s_val hM1073 (.inl rfl) rfl rfl (ev_load1 (v := .int .i64 (sN cc [] i4 : Int)) rfl rfl (((HZ.out.below HB1058.out)).blk.at_ (seenC_at (by omega))) (isAgg_no Try.underlying3 rfl)) (fun a1076 hM1075 => ?_)
              clear hM1073
              refine s_val hM1075 (.inl rfl) rfl rfl (ev_move (.inl rfl) rfl) (fun a1078 hM1077 => ?_)
              clear hM1075
              refine s_val hM1077 (.inl rfl) rfl rfl (ev_bin rfl rfl rfl g_int (b_neq (b := false) (by rw [decide_eq_false_iff_not]; omega))) (fun a1080 hM1079 => ?_)
              clear hM1077
              refine s_val hM1079 (.inl rfl) rfl rfl (ev_move (.inl rfl) rfl) (fun a1082 hM1081 => ?_)
              clear hM1079
              refine s_val hM1081 (.inr ⟨_, _, _, rfl, rfl, rfl⟩) rfl rfl (ev_move (.inl rfl) rfl) (fun a1084 hM1083 => ?_)
              clear hM1081
              refine s_call hM1083 (.inr ⟨_, _, _, rfl, rfl, rfl⟩) rfl rfl (f := 42) (args := #[.int .i64 0]) (ev_call hM1083 rfl rfl rfl (fun w => by simp [go_sem]) _) (law12_num _ _) (fun e w1085 hp => ?_)
              obtain ⟨rfl, rfl⟩ := hp
              refine ⟨_, rfl, fun a1088 hM1087 => ?_⟩
              clear hM1083
              refine s_val hM1087 (.inr ⟨_, _, _, rfl, rfl, rfl⟩) rfl rfl (ev_bin rfl rfl rfl g_int (b_neq (b := false) (by decide))) (fun a1090 hM1089 => ?_)
              clear hM1087
              refine s_val hM1089 (.inl rfl) rfl rfl (ev_pick rfl rfl rfl) (fun a1092 hM1091 => ?_)
              clear hM1089
              refine s_val hM1091 (.inl rfl) rfl rfl (ev_move (.inl rfl) rfl) (fun a1094 hM1093 => ?_)
              clear hM1091
              refine s_val hM1093 (.inr ⟨_, _, _, rfl, rfl, rfl⟩) rfl rfl (ev_move (.inl rfl) rfl) (fun a1096 hM1095 => ?_)
              clear hM1093
              refine s_val hM1095 (.inr ⟨_, _, _, rfl, rfl, rfl⟩) rfl rfl (ev_move (.inl rfl) rfl) (fun a1098 hM1097 => ?_)
              clear hM1095
              refine s_val hM1097 (.inr ⟨_, _, _, rfl, rfl, rfl⟩) rfl rfl (ev_conv8j (j := i4) rfl rfl Try.underlying3 Try.underlying5) (fun a1100 hM1099 => ?_)
              clear hM1097
              refine s_alloc (e := 5) hM1099 (.inr ⟨_, _, _, rfl, rfl, rfl⟩) rfl rfl (V := fun g => .slice (some ⟨g, 0, none⟩) 1 1) (ev_bsl hM1099 rfl rfl (fun w => by kernel_rfl)) (fun g1101 a1107 w1102 hM1106 KB1105_ hb1103 hg1104 => ?_)
              have KB1105 := hide KB1105_
              clear hM1099 KB1105_
              have lo1108 := hide (Nat.le_trans HB1056.out.size hg1104)
              have lo1109 := hide (Nat.le_trans HB1058.out.size hg1104)
              clear hg1104
              have HB1110 := hide (below_then HB1056.out hb1103)
              have HB1111 := hide (below_then HB1058.out hb1103)
              clear hb1103 HB1056 HB1058
              have HB1113 : Hid (Below w1102.heap.size w1102 w1102) := Below.refl _ _
              refine s_call hM1106 (.inr ⟨_, _, _, rfl, rfl, rfl⟩) rfl rfl (f := 26) (args := #[.slice A1 ((kb i4).length) c1, .slice ((some ⟨g1101, 0, none⟩)) 1 1]) (ev_call hM1106 rfl rfl rfl (fun w => by simp [go_sem]) _) (eqBytes_b (xs := kb i4) (ys := kb i4) _ (HV.out.below HB1111.out) (by show 1 ≤ _; omega) (Sl.of_blk (size := 1) (n := 1) (KB1105.out.on HB1113.out) rfl) (by omega) (r := true) (beq_self_eq_true (kb i4))) (fun e w1114 hp => ?_)
              obtain ⟨rfl, hb1115⟩ := hp
              refine ⟨_, rfl, fun a1117 hM1116 => ?_⟩
              clear hM1106
              have HB1118 := hide (below_then HB1110.out hb1115)
              have HB1119 := hide (below_then HB1111.out hb1115)
              have HB1120 := hide (below_then HB1113.out hb1115)
              clear hb1115 HB1110 HB1111 HB1113
              refine s_val hM1116 (.inr ⟨_, _, _, rfl, rfl, rfl⟩) rfl rfl (ev_not rfl rfl rfl) (fun a1122 hM1121 => ?_)
              clear hM1116
              refine s_val hM1121 (.inl rfl) rfl rfl (ev_pick rfl rfl rfl) (fun a1124 hM1123 => ?_)
              clear hM1121
              refine seg_nil (hK1070 _ _ ?_)
              clear hK1070 K1070 QK1070
              have hM1125 := hM1123.cut5 (t1 := 3) (t2 := 4) (t3 := 6) (t4 := 11) (t5 := 152) rfl rfl rfl rfl rfl
              clear hM1123
              refine wp_cond_false (hM1125.ev (t := 152) rfl) ?_
              refine wp_skip ?_
              refine inb_n ?_
              refine hK941 _ _ ?_
              refine region_last fun K1126 QK1126 hK1126 => ?_
              refine s_val hM1125 (.inl rfl) rfl rfl (ev_move (.inl rfl) rfl) (fun a1128 hM1127 => ?_)
              clear hM1125
              refine s_val hM1127 (.inl rfl) rfl rfl (ev_bin rfl rfl rfl g_int (b_add (r := ((i4 + 1 : Nat) : Int)) (by omega) (by omega))) (fun a1130 hM1129 => ?_)
              clear hM1127
              refine s_val hM1129 (.inl rfl) rfl rfl (ev_move (.inr rfl) rfl) (fun a1132 hM1131 => ?_)
              clear hM1129
              refine seg_nil (hK1126 _ _ ?_)
              clear hK1126 K1126 QK1126
              have hM1133 := hM1131.cut4 (t1 := 3) (t2 := 4) (t3 := 6) (t4 := 11) rfl rfl rfl rfl
              clear hM1131
              have hM1134 := hM1133.cut4 (t1 := 11) (t2 := 3) (t3 := 4) (t4 := 6) rfl rfl rfl rfl
              clear hM1133
              exact ⟨cc - (i4 + 1), by omega, i4 + 1, rfl, hM1134, HB1118, (hide (HZ.out.below HB1119.out)), (show Hid (i4 + 1 ≤ cc) from hl4)⟩
          case neg =>
            obtain rfl : cc = i4 := by have := HJ.out; omega
            clear HJ hl4
            refine region_then fun K1135 QK1135 hK1135 => ?_
            refine s_val hM927 (.inl rfl) rfl rfl (ev_move (.inl rfl) rfl) (fun a1137 hM1136 => ?_)
            clear hM927
            refine s_val hM1136 (.inl rfl) rfl rfl (ev_move (.inl rfl) rfl) (fun a1139 hM1138 => ?_)
            clear hM1136
            refine s_val hM1138 (.inl rfl) rfl rfl (ev_bin rfl rfl rfl g_int (b_lss (b := false) (by rw [decide_eq_false_iff_not]; omega))) (fun a1141 hM1140 => ?_)
            clear hM1138
            refine seg_nil (hK1135 _ _ ?_)
            clear hK1135 K1135 QK1135
            have hM1142 := hM1140.cut5 (t1 := 3) (t2 := 4) (t3 := 6) (t4 := 11) (t5 := 125) rfl rfl rfl rfl rfl
            clear hM1140
            refine wp_cond_false (hM1142.ev (t := 125) rfl) ?_
            refine wp_exit ?_
            repeat (with_reducible refine th_e ?_)
            refine inb_e ?_
            refine hK919 _ _ ?_
            refine region_then fun K1143 QK1143 hK1143 => ?_
            refine s_val hM1142 (.inl rfl) rfl rfl (ev_move (.inl rfl) rfl) (fun a1145 hM1144 => ?_)
            clear hM1142
            refine s_call hM1144 (.inl rfl) rfl rfl (f := 46) (args := #[.pointer (some ⟨g, 0, none⟩), .int .i64 1, .int .i64 2, .int .i64 0]) (ev_call hM1144 rfl rfl rfl (fun w => by simp [go_sem]) _) (nb_Take_no 1 2 0 ((HZ.out.below HB931.out)).nt (.inr (by rw [KK_12]; decide))) (fun e w1146 hp => ?_)
            obtain ⟨rfl, hb1147⟩ := hp
            refine ⟨_, rfl, fun a1149 hM1148 => ?_⟩
            clear hM1144
            have HB1150 := hide (below_then HB928.out hb1147)
            have HB1151 := hide (below_then HB931.out hb1147)
            clear hb1147 HB928 HB931
            refine s_val hM1148 (.inl rfl) rfl rfl (ev_move (.inl rfl) rfl) (fun a1153 hM1152 => ?_)
            clear hM1148
            refine s_val hM1152 (.inl rfl) rfl rfl (ev_ext (v := .slice none 0 0) rfl rfl rfl) (fun a1155 hM1154 => ?_)
            clear hM1152
            refine s_val hM1154 (.inl rfl) rfl rfl (ev_ext (v := .int .i64 3) rfl rfl rfl) (fun a1157 hM1156 => ?_)
            clear hM1154
            refine s_val hM1156 (.inl rfl) rfl rfl (ev_move (.inr rfl) rfl) (fun a1159 hM1158 => ?_)
            clear hM1156
            refine s_val hM1158 (.inl rfl) rfl rfl (ev_move (.inr rfl) rfl) (fun a1161 hM1160 => ?_)
            clear hM1158
            refine seg_nil (hK1143 _ _ ?_)
            clear hK1143 K1143 QK1143
            have hM1162 := hM1160.cut2 (t1 := 3) (t2 := 16) rfl rfl
            clear hM1160
            refine region_then fun K1163 QK1163 hK1163 => ?_
            refine s_val hM1162 (.inl rfl) rfl rfl (ev_move (.inl rfl) rfl) (fun a1165 hM1164 => ?_)
            clear hM1162
            refine s_call hM1164 (.inl rfl) rfl rfl (f := 42) (args := #[.int .i64 3]) (ev_call hM1164 rfl rfl rfl (fun w => by simp [go_sem]) _) (law12_num _ _) (fun e w1166 hp => ?_)
            obtain ⟨rfl, rfl⟩ := hp
            refine ⟨_, rfl, fun a1169 hM1168 => ?_⟩
            clear hM1164
            refine s_val hM1168 (.inl rfl) rfl rfl (ev_bin rfl rfl rfl g_int (b_eql (b := true) (by decide))) (fun a1171 hM1170 => ?_)
            clear hM1168
            refine s_val hM1170 (.inl rfl) rfl rfl (ev_move (.inl rfl) rfl) (fun a1173 hM1172 => ?_)
            clear hM1170
            refine s_val hM1172 (.inr ⟨_, _, _, rfl, rfl, rfl⟩) rfl rfl (ev_move (.inl rfl) rfl) (fun a1175 hM1174 => ?_)
            clear hM1172
            refine s_call hM1174 (.inr ⟨_, _, _, rfl, rfl, rfl⟩) rfl rfl (f := 45) (args := #[.pointer (some ⟨g, 0, none⟩), .int .i64 2, .int .i64 1]) (ev_call hM1174 rfl rfl rfl (fun w => by simp [go_sem]) _) (nw_CountK 2 1 ((HZ.out.below HB1151.out)).nt (k := 0) (by rw [KK_21, List.length_map, List.length_drop, List.length_range]; omega)) (fun e w1176 hp => ?_)
            obtain ⟨rfl, rfl⟩ := hp
            refine ⟨_, rfl, fun a1179 hM1178 => ?_⟩
            clear hM1174
            refine s_val hM1178 (.inr ⟨_, _, _, rfl, rfl, rfl⟩) rfl rfl (ev_bin rfl rfl rfl g_int (b_eql (b := true) (by decide))) (fun a1181 hM1180 => ?_)
            clear hM1178
            refine s_val hM1180 (.inl rfl) rfl rfl (ev_pick rfl rfl rfl) (fun a1183 hM1182 => ?_)
            clear hM1180
            refine s_val hM1182 (.inl rfl) rfl rfl (ev_move (.inl rfl) rfl) (fun a1185 hM1184 => ?_)
            clear hM1182
            refine s_call hM1184 (.inr ⟨_, _, _, rfl, rfl, rfl⟩) rfl rfl (f := 47) (args := #[]) (ev_call hM1184 rfl rfl rfl (fun w => by simp [go_sem]) _) (law12_wakes _) (fun e w1186 hp => ?_)
            obtain ⟨rfl, hb1187⟩ := hp
            refine ⟨_, rfl, fun a1189 hM1188 => ?_⟩
            clear hM1184
            have HB1190 := hide (below_then HB1150.out hb1187)
            have HB1191 := hide (below_then HB1151.out hb1187)
            clear hb1187 HB1150 HB1151
            refine s_val hM1188 (.inl rfl) rfl rfl (ev_pick rfl rfl rfl) (fun a1193 hM1192 => ?_)
            clear hM1188
            refine s_val hM1192 (.inl rfl) rfl rfl (ev_move (.inr rfl) rfl) (fun a1195 hM1194 => ?_)
            clear hM1192
            refine seg_nil (hK1163 _ _ ?_)
            clear hK1163 K1163 QK1163
            have hM1196 := hM1194.cut1 (t1 := 2) rfl
            clear hM1194
            refine wp_ret ?_
            repeat (with_reducible first | refine th_r ?_ | refine inb_r ?_ | refine js_r ?_)
            refine ret_of (t := 2) rfl hM1196 rfl ?_
            exact ⟨rfl, HB1190.out⟩
end Go.Proofs.Ytflamhndmggiaaa
