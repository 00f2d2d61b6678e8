/-
  The walk of MessageWider: whatever the list of records, the call answers true and changes nothing that was there.
-/
import Derived.Test.YtmnogefpphonlaaGr29
set_option linter.unusedVariables false
set_option linter.unusedSimpArgs false
namespace Go.Proofs.Ytmnogefpphonlaa
open Go.RowKit
set_option maxRecDepth 100000 in
set_option maxHeartbeats 4000000 in
theorem walk_MessageWider {v : Value} {w : World} (ho : ∃ A n c, v = .slice A n c ∧ Asks7 w A n) :
    Calls Try.prog 6 #[v] w fun r w' => r = .returned (.bool true) ∧ Below w.heap.size w w' := by
  obtain ⟨A, n, c, rfl, hn, h⟩ := ho
  have HH := hide h
  clear h
  go_enter Try.func6, Try.ntmps6
  refine law_shape (NS := 100) (t := 16) (si := 3) (sr := 2) (n := n) (M0 := [(0, .slice A n c)]) (Frm.start rfl (by intro p hp; simp only [List.mem_cons, List.not_mem_nil, or_false] at hp; subst hp; rfl)) ?_ ?_ ?_ ?_ ?_ ?_ ?_ rfl
  · intro a w Q hM hk
    refine region_last fun K1 QK1 hK1 => ?_
    refine s_val hM (.inl rfl) rfl rfl (ev_move (.inr rfl) rfl) (fun a3 hM2 => ?_)
    clear hM
    refine seg_nil (hK1 _ _ ?_)
    clear hK1 K1 QK1
    have hM4 := hM2.cut1 (t1 := 0) rfl
    clear hM2
    exact hk _ hM4
  · intro a w Q hM hk
    refine region_last fun K5 QK5 hK5 => ?_
    refine s_val hM (.inl rfl) rfl rfl (ev_move (.inr rfl) rfl) (fun a7 hM6 => ?_)
    clear hM
    refine seg_nil (hK5 _ _ ?_)
    clear hK5 K5 QK5
    have hM8 := hM6.cut2 (t1 := 3) (t2 := 0) rfl rfl
    clear hM6
    exact hk _ hM8
  · intro k a w Q hM hk
    have hd1 : decide ((k : Int) < (n : Int)) = decide (k < n) := by rw [decide_eq_decide]; omega
    have hd2 : decide ((k : Int) < 8) = decide (k < 8) := by rw [decide_eq_decide]; omega
    cases e1 : decide (k < n)
    case false =>
      rw [e1] at hd1 hk
      refine region_last fun K9 QK9 hK9 => ?_
      refine s_val hM (.inl rfl) rfl rfl (ev_move (.inl rfl) rfl) (fun a11 hM10 => ?_)
      clear hM
      refine s_val hM10 (.inl rfl) rfl rfl (ev_move (.inl rfl) rfl) (fun a13 hM12 => ?_)
      clear hM10
      refine s_val hM12 (.inl rfl) rfl rfl (ev_len rfl rfl Try.underlying22) (fun a15 hM14 => ?_)
      clear hM12
      refine s_val hM14 (.inl rfl) rfl rfl (ev_bin rfl rfl rfl g_int (b_lss (b := false) hd1)) (fun a17 hM16 => ?_)
      clear hM14
      refine s_val hM16 (.inl rfl) rfl rfl (ev_move (.inl rfl) rfl) (fun a19 hM18 => ?_)
      clear hM16
      refine s_skip hM18 rfl rfl rfl rfl rfl rfl (fun a21 hM20 => ?_)
      clear hM18
      refine s_skip hM20 rfl rfl rfl rfl rfl rfl (fun a23 hM22 => ?_)
      clear hM20
      refine s_val hM22 (.inl rfl) rfl rfl (ev_pick rfl rfl rfl) (fun a25 hM24 => ?_)
      clear hM22
      refine seg_nil (hK9 _ _ ?_)
      clear hK9 K9 QK9
      exact hk _ (hM24.cut2 (t1 := 3) (t2 := 0) rfl rfl) (hM24.ev (t := 16) rfl)
    case true =>
      rw [e1] at hd1 hk
      cases e2 : decide (k < 8)
      case false =>
        rw [e2] at hd2 hk
        refine region_last fun K26 QK26 hK26 => ?_
        refine s_val hM (.inl rfl) rfl rfl (ev_move (.inl rfl) rfl) (fun a28 hM27 => ?_)
        clear hM
        refine s_val hM27 (.inl rfl) rfl rfl (ev_move (.inl rfl) rfl) (fun a30 hM29 => ?_)
        clear hM27
        refine s_val hM29 (.inl rfl) rfl rfl (ev_len rfl rfl Try.underlying22) (fun a32 hM31 => ?_)
        clear hM29
        refine s_val hM31 (.inl rfl) rfl rfl (ev_bin rfl rfl rfl g_int (b_lss (b := true) hd1)) (fun a34 hM33 => ?_)
        clear hM31
        refine s_val hM33 (.inl rfl) rfl rfl (ev_move (.inl rfl) rfl) (fun a36 hM35 => ?_)
        clear hM33
        refine s_val hM35 (.inr ⟨_, _, _, rfl, rfl, rfl⟩) rfl rfl (ev_move (.inl rfl) rfl) (fun a38 hM37 => ?_)
        clear hM35
        refine s_val hM37 (.inr ⟨_, _, _, rfl, rfl, rfl⟩) rfl rfl (ev_bin rfl rfl rfl g_int (b_lss (b := false) hd2)) (fun a40 hM39 => ?_)
        clear hM37
        refine s_val hM39 (.inl rfl) rfl rfl (ev_pick rfl rfl rfl) (fun a42 hM41 => ?_)
        clear hM39
        refine seg_nil (hK26 _ _ ?_)
        clear hK26 K26 QK26
        exact hk _ (hM41.cut2 (t1 := 3) (t2 := 0) rfl rfl) (hM41.ev (t := 16) rfl)
      case true =>
        rw [e2] at hd2 hk
        refine region_last fun K43 QK43 hK43 => ?_
        refine s_val hM (.inl rfl) rfl rfl (ev_move (.inl rfl) rfl) (fun a45 hM44 => ?_)
        clear hM
        refine s_val hM44 (.inl rfl) rfl rfl (ev_move (.inl rfl) rfl) (fun a47 hM46 => ?_)
        clear hM44
        refine s_val hM46 (.inl rfl) rfl rfl (ev_len rfl rfl Try.underlying22) (fun a49 hM48 => ?_)
        clear hM46
        refine s_val hM48 (.inl rfl) rfl rfl (ev_bin rfl rfl rfl g_int (b_lss (b := true) hd1)) (fun a51 hM50 => ?_)
        clear hM48
        refine s_val hM50 (.inl rfl) rfl rfl (ev_move (.inl rfl) rfl) (fun a53 hM52 => ?_)
        clear hM50
        refine s_val hM52 (.inr ⟨_, _, _, rfl, rfl, rfl⟩) rfl rfl (ev_move (.inl rfl) rfl) (fun a55 hM54 => ?_)
        clear hM52
        refine s_val hM54 (.inr ⟨_, _, _, rfl, rfl, rfl⟩) rfl rfl (ev_bin rfl rfl rfl g_int (b_lss (b := true) hd2)) (fun a57 hM56 => ?_)
        clear hM54
        refine s_val hM56 (.inl rfl) rfl rfl (ev_pick rfl rfl rfl) (fun a59 hM58 => ?_)
        clear hM56
        refine seg_nil (hK43 _ _ ?_)
        clear hK43 K43 QK43
        exact hk _ (hM58.cut2 (t1 := 3) (t2 := 0) rfl rfl) (hM58.ev (t := 16) rfl)
  · intro k a w Q hk8 hM hk
    refine region_last fun K60 QK60 hK60 => ?_
    refine s_val hM (.inl rfl) rfl rfl (ev_move (.inl rfl) rfl) (fun a62 hM61 => ?_)
    clear hM
    refine s_val hM61 (.inl rfl) rfl rfl (ev_bin rfl rfl rfl g_int (b_add (r := ((k + 1 : Nat) : Int)) (by omega) (by omega))) (fun a64 hM63 => ?_)
    clear hM61
    refine s_val hM63 (.inl rfl) rfl rfl (ev_move (.inr rfl) rfl) (fun a66 hM65 => ?_)
    clear hM63
    refine seg_nil (hK60 _ _ ?_)
    clear hK60 K60 QK60
    have hM67 := hM65.cut2 (t1 := 3) (t2 := 0) rfl rfl
    clear hM65
    exact hk _ hM67
  · intro k a w1 Q hlt h8 hM HB0 hN hE hR
    obtain ⟨b, off, rfl, hc⟩ := HH.out (by omega)
    obtain ⟨x, v, N, A4, n4, c4, bs, C0, C1, C2, S1, L1, S4, hc4, hm4⟩ := hc k hlt
    obtain ⟨C, HC⟩ : ∃ C : Array Value, Hid (C = msC x v) := ⟨_, rfl⟩
    obtain ⟨PC, HPC⟩ : ∃ C : Array Value, Hid (C = askC x v N (.slice A4 n4 c4)) := ⟨_, rfl⟩
    obtain ⟨ZM, HZM⟩ : ∃ C : Array Value, Hid (C = msC zM zV) := ⟨_, rfl⟩
    obtain ⟨R1, R2⟩ := ask_rng HC.out HPC.out C0 C1 C2
    have HR1 := hide R1
    have HR2 := hide R2
    have HS := hide S1
    have HL := hide L1
    have HZ := hide (MsL.z L1)
    have HX := hide S4
    have HXL := hide S4.blen
    have HX4 := hide (And.intro hc4 hm4)
    clear R1 R2 C0 C1 C2 S1 L1 S4 hc hc4 hm4
    refine region_then fun K68 QK68 hK68 => ?_
    refine s_val hM (.inl rfl) rfl rfl (ev_move (.inl rfl) rfl) (fun a70 hM69 => ?_)
    clear hM
    refine s_val hM69 (.inl rfl) rfl rfl (ev_move (.inl rfl) rfl) (fun a72 hM71 => ?_)
    clear hM69
    refine s_val hM71 (.inl rfl) rfl rfl (ev_idx (b := b) (k := k) (sz := 20) (p := off + k * 20) rfl rfl rfl Try.underlying22 (by kernel_rfl) hlt (by first | rfl | omega)) (fun a74 hM73 => ?_)
    clear hM71
    refine s_val hM73 (.inl rfl) rfl rfl (ev_loadm rfl rfl (HR1.out.below HB0.out) Try.underlying35 rfl (by rw [HPC.out]; exact info_ask)) (fun a76 hM75 => ?_)
    clear hM73
    refine s_new hM75 rfl rfl rfl rfl alloc_ask rfl rfl rfl rfl (by rw [HPC.out]; exact info_ask) (by rw [HPC.out]; rfl) (one_ask HPC.out) (fun g77 a83 w78 hM82 KB81_ hb79 hg80 => ?_)
    have KB81 := hide KB81_
    clear hM75 KB81_
    clear hg80
    have HB84 := hide (below_then HB0.out hb79)
    clear hb79 HB0
    have HB86 : Hid (Below w78.heap.size w78 w78) := Below.refl _ _
    have HRCg77 : Hid (Rng w78 g77 0 C) := ((KB81.out).rng).sub 0 (ask_sub HC.out HPC.out)
    refine seg_nil (hK68 _ _ ?_)
    clear hK68 K68 QK68
    have hM87 := hM82.cut3 (t1 := 3) (t2 := 0) (t3 := 4) rfl rfl rfl
    clear hM82
    refine wp_seq_k fun K88 hK88 => ?_
    obtain ⟨q0, HV⟩ : ∃ q, Hid (decide (2000 < msW x v) = q) := ⟨_, rfl⟩
    cases q0
    case true =>
      refine region_then fun K89 QK89 hK89 => ?_
      refine s_val hM87 (.inl rfl) rfl rfl (ev_fldw (m := 0) rfl rfl (fun w => by simp [go_sem])) (fun a91 hM90 => ?_)
      clear hM87
      refine s_val hM90 (.inl rfl) rfl rfl (ev_loadm rfl rfl (HRCg77.out.below HB86.out) Try.underlying32 rfl (by rw [HC.out]; exact Try.infoMsg)) (fun a93 hM92 => ?_)
      clear hM90
      refine s_call hM92 (.inl rfl) rfl rfl (f := 23) (args := #[.agg C]) (ev_call hM92 rfl rfl rfl (fun w => by simp [go_sem]) _) (law7_Heavy x v _ (hide (HS.out.below HB84.out)) HL HC HV) (fun e w94 hp => ?_)
      obtain ⟨rfl, hb95⟩ := hp
      refine ⟨_, rfl, fun a97 hM96 => ?_⟩
      clear hM92
      have HB98 := hide (below_then HB84.out hb95)
      have HB99 := hide (below_then HB86.out hb95)
      clear hb95 HB84 HB86
      refine seg_nil (hK89 _ _ ?_)
      clear hK89 K89 QK89
      have hM100 := hM96.cut4 (t1 := 3) (t2 := 0) (t3 := 4) (t4 := 25) rfl rfl rfl rfl
      clear hM96
      refine wp_cond_true (hM100.ev (t := 25) rfl) ?_
      refine region_then fun K101 QK101 hK101 => ?_
      refine s_val hM100 (.inl rfl) rfl rfl (ev_move (.inr rfl) rfl) (fun a103 hM102 => ?_)
      clear hM100
      refine seg_nil (hK101 _ _ ?_)
      clear hK101 K101 QK101
      have hM104 := hM102.cut3 (t1 := 3) (t2 := 0) (t3 := 2) rfl rfl rfl
      clear hM102
      refine wp_ret ?_
      exact hR _ _ (hM104.cut1 (t1 := 2) rfl) HB98
    case false =>
      have HK := hide (MsL.light HV.out)
      refine region_then fun K105 QK105 hK105 => ?_
      refine s_val hM87 (.inl rfl) rfl rfl (ev_fldw (m := 0) rfl rfl (fun w => by simp [go_sem])) (fun a107 hM106 => ?_)
      clear hM87
      refine s_val hM106 (.inl rfl) rfl rfl (ev_loadm rfl rfl (HRCg77.out.below HB86.out) Try.underlying32 rfl (by rw [HC.out]; exact Try.infoMsg)) (fun a109 hM108 => ?_)
      clear hM106
      refine s_call hM108 (.inl rfl) rfl rfl (f := 23) (args := #[.agg C]) (ev_call hM108 rfl rfl rfl (fun w => by simp [go_sem]) _) (law7_Heavy x v _ (hide (HS.out.below HB84.out)) HL HC HV) (fun e w110 hp => ?_)
      obtain ⟨rfl, hb111⟩ := hp
      refine ⟨_, rfl, fun a113 hM112 => ?_⟩
      clear hM108
      have HB114 := hide (below_then HB84.out hb111)
      have HB115 := hide (below_then HB86.out hb111)
      clear hb111 HB84 HB86
      refine seg_nil (hK105 _ _ ?_)
      clear hK105 K105 QK105
      have hM116 := hM112.cut4 (t1 := 3) (t2 := 0) (t3 := 4) (t4 := 25) rfl rfl rfl rfl
      clear hM112
      refine wp_cond_false (hM116.ev (t := 25) rfl) ?_
      refine wp_skip ?_
      refine hK88 _ _ ?_
      refine wp_seq_k fun K117 hK117 => ?_
      obtain ⟨q1, HM⟩ : ∃ q, Hid (mayM N x = q) := ⟨_, rfl⟩
      cases q1
      case false =>
        refine region_then fun K118 QK118 hK118 => ?_
        refine s_val hM116 (.inl rfl) rfl rfl (ev_fldw (m := 0) rfl rfl (fun w => by simp [go_sem])) (fun a120 hM119 => ?_)
        clear hM116
        refine s_val hM119 (.inl rfl) rfl rfl (ev_loadm rfl rfl (HRCg77.out.below HB115.out) Try.underlying32 rfl (by rw [HC.out]; exact Try.infoMsg)) (fun a122 hM121 => ?_)
        clear hM119
        refine s_val hM121 (.inl rfl) rfl rfl (ev_fldw (m := 18) rfl rfl (fun w => by simp [go_sem])) (fun a124 hM123 => ?_)
        clear hM121
        refine s_val hM123 (.inl rfl) rfl rfl (ev_load1 (v := .int .i64 N) rfl rfl ((KB81.out.on HB115.out).rng.at_ (m := 18) (by rw [HPC.out]; rfl)) (isAgg_no Try.underlying3 rfl)) (fun a126 hM125 => ?_)
        clear hM123
        refine s_call hM125 (.inl rfl) rfl rfl (f := 25) (args := #[.agg C, .int .i64 N]) (ev_call hM125 rfl rfl rfl (fun w => by simp [go_sem]) _) (message_Check N x v _ (hide (HS.out.below HB114.out)) HZ HC HM) (fun e w127 hp => ?_)
        obtain ⟨rfl, hb128⟩ := hp
        refine ⟨_, rfl, fun a130 hM129 => ?_⟩
        clear hM125
        have HB131 := hide (below_then HB114.out hb128)
        have HB132 := hide (below_then HB115.out hb128)
        clear hb128 HB114 HB115
        refine s_call hM129 (.inl rfl) rfl rfl (f := 18) (args := #[.int .i64 ((formE false))]) (ev_call hM129 rfl rfl rfl (fun w => by simp [go_sem]) _) (law7_num _ _) (fun e w133 hp => ?_)
        obtain ⟨rfl, rfl⟩ := hp
        refine ⟨_, rfl, fun a136 hM135 => ?_⟩
        clear hM129
        refine s_val hM135 (.inl rfl) rfl rfl (ev_bin rfl rfl rfl g_int (b_neq (b := true) (by decide))) (fun a138 hM137 => ?_)
        clear hM135
        refine s_val hM137 (.inl rfl) rfl rfl (ev_move (.inl rfl) rfl) (fun a140 hM139 => ?_)
        clear hM137
        refine s_skip hM139 rfl rfl rfl rfl rfl rfl (fun a142 hM141 => ?_)
        clear hM139
        refine s_skip hM141 rfl rfl rfl rfl rfl rfl (fun a144 hM143 => ?_)
        clear hM141
        refine s_skip hM143 rfl rfl rfl rfl rfl rfl (fun a146 hM145 => ?_)
        clear hM143
        refine s_skip hM145 rfl rfl rfl rfl rfl rfl (fun a148 hM147 => ?_)
        clear hM145
        refine s_val hM147 (.inl rfl) rfl rfl (ev_pick rfl rfl rfl) (fun a150 hM149 => ?_)
        clear hM147
        refine seg_nil (hK118 _ _ ?_)
        clear hK118 K118 QK118
        have hM151 := hM149.cut4 (t1 := 3) (t2 := 0) (t3 := 4) (t4 := 38) rfl rfl rfl rfl
        clear hM149
        refine wp_cond_true (hM151.ev (t := 38) rfl) ?_
        refine wp_exit ?_
        have hM152 := hM151.cut2 (t1 := 3) (t2 := 0) rfl rfl
        clear hM151
        exact hE _ _ hM152 HB131
      case true =>
        have HN := hide (isC_iff.1 (pairM_iff.1 (mayM_iff.1 HM.out).1).1)
        by_cases h16 : 16 < N + 3
        case pos =>
          refine region_then fun K153 QK153 hK153 => ?_
          refine s_val hM116 (.inl rfl) rfl rfl (ev_fldw (m := 0) rfl rfl (fun w => by simp [go_sem])) (fun a155 hM154 => ?_)
          clear hM116
          refine s_val hM154 (.inl rfl) rfl rfl (ev_loadm rfl rfl (HRCg77.out.below HB115.out) Try.underlying32 rfl (by rw [HC.out]; exact Try.infoMsg)) (fun a157 hM156 => ?_)
          clear hM154
          refine s_val hM156 (.inl rfl) rfl rfl (ev_fldw (m := 18) rfl rfl (fun w => by simp [go_sem])) (fun a159 hM158 => ?_)
          clear hM156
          refine s_val hM158 (.inl rfl) rfl rfl (ev_load1 (v := .int .i64 N) rfl rfl ((KB81.out.on HB115.out).rng.at_ (m := 18) (by rw [HPC.out]; rfl)) (isAgg_no Try.underlying3 rfl)) (fun a161 hM160 => ?_)
          clear hM158
          refine s_call hM160 (.inl rfl) rfl rfl (f := 25) (args := #[.agg C, .int .i64 N]) (ev_call hM160 rfl rfl rfl (fun w => by simp [go_sem]) _) (message_Check N x v _ (hide (HS.out.below HB114.out)) HZ HC HM) (fun e w162 hp => ?_)
          obtain ⟨rfl, hb163⟩ := hp
          refine ⟨_, rfl, fun a165 hM164 => ?_⟩
          clear hM160
          have HB166 := hide (below_then HB114.out hb163)
          have HB167 := hide (below_then HB115.out hb163)
          clear hb163 HB114 HB115
          refine s_call hM164 (.inl rfl) rfl rfl (f := 18) (args := #[.int .i64 ((formE true))]) (ev_call hM164 rfl rfl rfl (fun w => by simp [go_sem]) _) (law7_num _ _) (fun e w168 hp => ?_)
          obtain ⟨rfl, rfl⟩ := hp
          refine ⟨_, rfl, fun a171 hM170 => ?_⟩
          clear hM164
          refine s_val hM170 (.inl rfl) rfl rfl (ev_bin rfl rfl rfl g_int (b_neq (b := false) (by decide))) (fun a173 hM172 => ?_)
          clear hM170
          refine s_val hM172 (.inl rfl) rfl rfl (ev_move (.inl rfl) rfl) (fun a175 hM174 => ?_)
          clear hM172
          refine s_val hM174 (.inr ⟨_, _, _, rfl, rfl, rfl⟩) rfl rfl (ev_fldw (m := 18) rfl rfl (fun w => by simp [go_sem])) (fun a177 hM176 => ?_)
          clear hM174
          refine s_val hM176 (.inr ⟨_, _, _, rfl, rfl, rfl⟩) rfl rfl (ev_load1 (v := .int .i64 N) rfl rfl ((KB81.out.on HB167.out).rng.at_ (m := 18) (by rw [HPC.out]; rfl)) (isAgg_no Try.underlying3 rfl)) (fun a179 hM178 => ?_)
          clear hM176
          refine s_val hM178 (.inr ⟨_, _, _, rfl, rfl, rfl⟩) rfl rfl (ev_bin rfl rfl rfl g_int (b_add (r := (N + 3)) rfl (by have := HN.out; omega))) (fun a181 hM180 => ?_)
          clear hM178
          refine s_val hM180 (.inr ⟨_, _, _, rfl, rfl, rfl⟩) rfl rfl (ev_bin rfl rfl rfl g_int (b_gtr (b := true) (decide_eq_true h16))) (fun a183 hM182 => ?_)
          clear hM180
          refine s_val hM182 (.inl rfl) rfl rfl (ev_pick rfl rfl rfl) (fun a185 hM184 => ?_)
          clear hM182
          refine seg_nil (hK153 _ _ ?_)
          clear hK153 K153 QK153
          have hM186 := hM184.cut4 (t1 := 3) (t2 := 0) (t3 := 4) (t4 := 38) rfl rfl rfl rfl
          clear hM184
          refine wp_cond_true (hM186.ev (t := 38) rfl) ?_
          refine wp_exit ?_
          have hM187 := hM186.cut2 (t1 := 3) (t2 := 0) rfl rfl
          clear hM186
          exact hE _ _ hM187 HB166
        case neg =>
          have H16 := hide h16
          clear h16
          refine region_then fun K188 QK188 hK188 => ?_
          refine s_val hM116 (.inl rfl) rfl rfl (ev_fldw (m := 0) rfl rfl (fun w => by simp [go_sem])) (fun a190 hM189 => ?_)
          clear hM116
          refine s_val hM189 (.inl rfl) rfl rfl (ev_loadm rfl rfl (HRCg77.out.below HB115.out) Try.underlying32 rfl (by rw [HC.out]; exact Try.infoMsg)) (fun a192 hM191 => ?_)
          clear hM189
          refine s_val hM191 (.inl rfl) rfl rfl (ev_fldw (m := 18) rfl rfl (fun w => by simp [go_sem])) (fun a194 hM193 => ?_)
          clear hM191
          refine s_val hM193 (.inl rfl) rfl rfl (ev_load1 (v := .int .i64 N) rfl rfl ((KB81.out.on HB115.out).rng.at_ (m := 18) (by rw [HPC.out]; rfl)) (isAgg_no Try.underlying3 rfl)) (fun a196 hM195 => ?_)
          clear hM193
          refine s_call hM195 (.inl rfl) rfl rfl (f := 25) (args := #[.agg C, .int .i64 N]) (ev_call hM195 rfl rfl rfl (fun w => by simp [go_sem]) _) (message_Check N x v _ (hide (HS.out.below HB114.out)) HZ HC HM) (fun e w197 hp => ?_)
          obtain ⟨rfl, hb198⟩ := hp
          refine ⟨_, rfl, fun a200 hM199 => ?_⟩
          clear hM195
          have HB201 := hide (below_then HB114.out hb198)
          have HB202 := hide (below_then HB115.out hb198)
          clear hb198 HB114 HB115
          refine s_call hM199 (.inl rfl) rfl rfl (f := 18) (args := #[.int .i64 ((formE true))]) (ev_call hM199 rfl rfl rfl (fun w => by simp [go_sem]) _) (law7_num _ _) (fun e w203 hp => ?_)
          obtain ⟨rfl, rfl⟩ := hp
          refine ⟨_, rfl, fun a206 hM205 => ?_⟩
          clear hM199
          refine s_val hM205 (.inl rfl) rfl rfl (ev_bin rfl rfl rfl g_int (b_neq (b := false) (by decide))) (fun a208 hM207 => ?_)
          clear hM205
          refine s_val hM207 (.inl rfl) rfl rfl (ev_move (.inl rfl) rfl) (fun a210 hM209 => ?_)
          clear hM207
          refine s_val hM209 (.inr ⟨_, _, _, rfl, rfl, rfl⟩) rfl rfl (ev_fldw (m := 18) rfl rfl (fun w => by simp [go_sem])) (fun a212 hM211 => ?_)
          clear hM209
          refine s_val hM211 (.inr ⟨_, _, _, rfl, rfl, rfl⟩) rfl rfl (ev_load1 (v := .int .i64 N) rfl rfl ((KB81.out.on HB202.out).rng.at_ (m := 18) (by rw [HPC.out]; rfl)) (isAgg_no Try.underlying3 rfl)) (fun a214 hM213 => ?_)
          clear hM211
          refine s_val hM213 (.inr ⟨_, _, _, rfl, rfl, rfl⟩) rfl rfl (ev_bin rfl rfl rfl g_int (b_add (r := (N + 3)) rfl (by have := HN.out; omega))) (fun a216 hM215 => ?_)
          clear hM213
          refine s_val hM215 (.inr ⟨_, _, _, rfl, rfl, rfl⟩) rfl rfl (ev_bin rfl rfl rfl g_int (b_gtr (b := false) (decide_eq_false H16.out))) (fun a218 hM217 => ?_)
          clear hM215
          refine s_val hM217 (.inl rfl) rfl rfl (ev_pick rfl rfl rfl) (fun a220 hM219 => ?_)
          clear hM217
          refine seg_nil (hK188 _ _ ?_)
          clear hK188 K188 QK188
          have hM221 := hM219.cut4 (t1 := 3) (t2 := 0) (t3 := 4) (t4 := 38) rfl rfl rfl rfl
          clear hM219
          refine wp_cond_false (hM221.ev (t := 38) rfl) ?_
          refine wp_skip ?_
          refine hK117 _ _ ?_
          by_cases h4 : x.k = 4
          case pos =>
            have H4 := hide h4
            clear h4
            refine region_then fun K222 QK222 hK222 => ?_
            refine s_val hM221 (.inl rfl) rfl rfl (ev_fldw (m := 0) rfl rfl (fun w => by simp [go_sem])) (fun a224 hM223 => ?_)
            clear hM221
            refine s_val hM223 (.inl rfl) rfl rfl (ev_fldw (m := 0) rfl rfl (fun w => by simp [go_sem])) (fun a226 hM225 => ?_)
            clear hM223
            refine s_val hM225 (.inl rfl) rfl rfl (ev_load1 (v := .int .i64 (x.k)) rfl rfl ((HRCg77.out.below HB202.out).at_ (m := 0) (by rw [HC.out]; rfl)) (isAgg_no Try.underlying3 rfl)) (fun a228 hM227 => ?_)
            clear hM225
            refine s_val hM227 (.inl rfl) rfl rfl (ev_bin rfl rfl rfl g_int (b_neq (b := false) (by have := H4.out; simp [this]))) (fun a230 hM229 => ?_)
            clear hM227
            refine s_val hM229 (.inl rfl) rfl rfl (ev_move (.inl rfl) rfl) (fun a232 hM231 => ?_)
            clear hM229
            refine s_skip hM231 rfl rfl rfl rfl rfl rfl (fun a234 hM233 => ?_)
            clear hM231
            refine s_skip hM233 rfl rfl rfl rfl rfl rfl (fun a236 hM235 => ?_)
            clear hM233
            refine s_skip hM235 rfl rfl rfl rfl rfl rfl (fun a238 hM237 => ?_)
            clear hM235
            refine s_skip hM237 rfl rfl rfl rfl rfl rfl (fun a240 hM239 => ?_)
            clear hM237
            refine s_val hM239 (.inl rfl) rfl rfl (ev_pick rfl rfl rfl) (fun a242 hM241 => ?_)
            clear hM239
            refine s_val hM241 (.inl rfl) rfl rfl (ev_move (.inr rfl) rfl) (fun a244 hM243 => ?_)
            clear hM241
            refine seg_nil (hK222 _ _ ?_)
            clear hK222 K222 QK222
            have hM245 := hM243.cut4 (t1 := 3) (t2 := 0) (t3 := 4) (t4 := 5) rfl rfl rfl rfl
            clear hM243
            refine wp_seq_k fun K246 hK246 => ?_
            refine region_then fun K247 QK247 hK247 => ?_
            refine s_val hM245 (.inl rfl) rfl rfl (ev_move (.inl rfl) rfl) (fun a249 hM248 => ?_)
            clear hM245
            refine s_val hM248 (.inl rfl) rfl rfl (ev_move (.inl rfl) rfl) (fun a251 hM250 => ?_)
            clear hM248
            refine s_skip hM250 rfl rfl rfl rfl rfl rfl (fun a253 hM252 => ?_)
            clear hM250
            refine s_skip hM252 rfl rfl rfl rfl rfl rfl (fun a255 hM254 => ?_)
            clear hM252
            refine s_skip hM254 rfl rfl rfl rfl rfl rfl (fun a257 hM256 => ?_)
            clear hM254
            refine s_skip hM256 rfl rfl rfl rfl rfl rfl (fun a259 hM258 => ?_)
            clear hM256
            refine s_skip hM258 rfl rfl rfl rfl rfl rfl (fun a261 hM260 => ?_)
            clear hM258
            refine s_skip hM260 rfl rfl rfl rfl rfl rfl (fun a263 hM262 => ?_)
            clear hM260
            refine s_skip hM262 rfl rfl rfl rfl rfl rfl (fun a265 hM264 => ?_)
            clear hM262
            refine s_skip hM264 rfl rfl rfl rfl rfl rfl (fun a267 hM266 => ?_)
            clear hM264
            refine s_val hM266 (.inl rfl) rfl rfl (ev_pick rfl rfl rfl) (fun a269 hM268 => ?_)
            clear hM266
            refine seg_nil (hK247 _ _ ?_)
            clear hK247 K247 QK247
            have hM270 := hM268.cut4 (t1 := 3) (t2 := 0) (t3 := 4) (t4 := 59) rfl rfl rfl rfl
            clear hM268
            refine wp_cond_false (hM270.ev (t := 59) rfl) ?_
            refine wp_skip ?_
            refine hK246 _ _ ?_
            refine region_then fun K271 QK271 hK271 => ?_
            refine s_val hM270 (.inl rfl) rfl rfl (ev_fldw (m := 0) rfl rfl (fun w => by simp [go_sem])) (fun a273 hM272 => ?_)
            clear hM270
            refine s_val hM272 (.inl rfl) rfl rfl (ev_loadm rfl rfl (HRCg77.out.below HB202.out) Try.underlying32 rfl (by rw [HC.out]; exact Try.infoMsg)) (fun a275 hM274 => ?_)
            clear hM272
            refine s_call hM274 (.inl rfl) rfl rfl (f := 24) (args := #[.agg C]) (ev_call hM274 rfl rfl rfl (fun w => by simp [go_sem]) _) (copy_msg (hide (HS.out.below HB201.out)) HK HZ HC) (fun e w276 hp => ?_)
            obtain ⟨D1, u1, rfl, HD1, HSD1, HZD1, hb277⟩ := hp
            refine ⟨_, rfl, fun a279 hM278 => ?_⟩
            clear hM274
            have HB280 := hide (below_then HB201.out hb277)
            have HB281 := hide (below_then HB202.out hb277)
            clear hb277 HB201 HB202
            have HB283 : Hid (Below w276.heap.size w276 w276) := Below.refl _ _
            refine s_new hM278 rfl rfl rfl rfl alloc_msg rfl rfl rfl rfl (by rw [HD1.out]; exact Try.infoMsg) (by rw [HD1.out]; rfl) (one_msg HD1.out) (fun g284 a290 w285 hM289 KB288_ hb286 hg287 => ?_)
            have KB288 := hide KB288_
            clear hM278 KB288_
            have lo291 := hide (Nat.le_trans HB280.out.size hg287)
            have lo292 := hide (Nat.le_trans HB281.out.size hg287)
            have lo293 := hide (Nat.le_trans HB283.out.size hg287)
            clear hg287
            have HB294 := hide (below_then HB280.out hb286)
            have HB295 := hide (below_then HB281.out hb286)
            have HB296 := hide (below_then HB283.out hb286)
            clear hb286 HB280 HB281 HB283
            have HB298 : Hid (Below w285.heap.size w285 w285) := Below.refl _ _
            refine seg_nil (hK271 _ _ ?_)
            clear hK271 K271 QK271
            have hM299 := hM289.cut4 (t1 := 3) (t2 := 0) (t3 := 4) (t4 := 6) rfl rfl rfl rfl
            clear hM289
            refine region_then fun K300 QK300 hK300 => ?_
            refine s_val hM299 (.inl rfl) rfl rfl (ev_fldw (m := 18) rfl rfl (fun w => by simp [go_sem])) (fun a302 hM301 => ?_)
            clear hM299
            refine s_val hM301 (.inl rfl) rfl rfl (ev_load1 (v := .int .i64 N) rfl rfl ((KB81.out.on HB295.out).rng.at_ (m := 18) (by rw [HPC.out]; rfl)) (isAgg_no Try.underlying3 rfl)) (fun a304 hM303 => ?_)
            clear hM301
            refine s_val hM303 (.inl rfl) rfl rfl (ev_bin rfl rfl rfl g_int (b_add (r := (N + 1)) rfl (by have := HN.out; omega))) (fun a306 hM305 => ?_)
            clear hM303
            refine s_val hM305 (.inl rfl) rfl rfl (ev_fldw (m := 2) rfl rfl (fun w => by simp [go_sem])) (fun a308 hM307 => ?_)
            clear hM305
            refine s_put hM307 rfl rfl rfl rfl rfl (KB288.out.on HB298.out) (by rw [HD1.out]; exact (by decide : 2 < 18)) (st_int Try.underlying3 (by kernel_rfl)) (fun w309 KB310_ hg311 => ?_)
            obtain ⟨E1, HE1⟩ : ∃ E : Array Value, Hid (E = msC { x with k := x.k, t := N + 1 } u1) := ⟨_, rfl⟩
            have KB310 : Hid (Blk w309 g284 32 E1) := by have h := KB310_; rw [HD1.out] at h; rw [HE1.out]; exact h
            clear KB310_
            have HB312 := hide (below_of_grown HB294.out hg311 HB294.out.size lo291.out)
            have HB313 := hide (below_of_grown HB295.out hg311 HB295.out.size lo292.out)
            have HB314 := hide (below_of_grown HB296.out hg311 HB296.out.size lo293.out)
            clear HB294 HB295 HB296 HB298 hg311
            have HB316 : Hid (Below w309.heap.size w309 w309) := Below.refl _ _
            refine seg_nil (hK300 _ _ ?_)
            clear hK300 K300 QK300
            have hM317 := hM307.cut4 (t1 := 3) (t2 := 0) (t3 := 4) (t4 := 6) rfl rfl rfl rfl
            clear hM307
            refine region_then fun K318 QK318 hK318 => ?_
            refine s_val hM317 (.inl rfl) rfl rfl (ev_fldw (m := 0) rfl rfl (fun w => by simp [go_sem])) (fun a320 hM319 => ?_)
            clear hM317
            refine s_val hM319 (.inl rfl) rfl rfl (ev_loadm rfl rfl (HRCg77.out.below HB313.out) Try.underlying32 rfl (by rw [HC.out]; exact Try.infoMsg)) (fun a322 hM321 => ?_)
            clear hM319
            refine s_call hM321 (.inl rfl) rfl rfl (f := 24) (args := #[.agg C]) (ev_call hM321 rfl rfl rfl (fun w => by simp [go_sem]) _) (copy_msg (hide (HS.out.below HB312.out)) HK HZ HC) (fun e w323 hp => ?_)
            obtain ⟨D2, u2, rfl, HD2, HSD2, HZD2, hb324⟩ := hp
            refine ⟨_, rfl, fun a326 hM325 => ?_⟩
            clear hM321
            have HB327 := hide (below_then HB312.out hb324)
            have HB328 := hide (below_then HB313.out hb324)
            have HB329 := hide (below_then HB314.out hb324)
            have HB330 := hide (below_then HB316.out hb324)
            clear hb324 HB312 HB313 HB314 HB316
            have HB332 : Hid (Below w323.heap.size w323 w323) := Below.refl _ _
            refine s_new hM325 rfl rfl rfl rfl alloc_msg rfl rfl rfl rfl (by rw [HD2.out]; exact Try.infoMsg) (by rw [HD2.out]; rfl) (one_msg HD2.out) (fun g333 a339 w334 hM338 KB337_ hb335 hg336 => ?_)
            have KB337 := hide KB337_
            clear hM325 KB337_
            have lo340 := hide (Nat.le_trans HB327.out.size hg336)
            have lo341 := hide (Nat.le_trans HB328.out.size hg336)
            have lo342 := hide (Nat.le_trans HB329.out.size hg336)
            have lo343 := hide (Nat.le_trans HB330.out.size hg336)
            have lo344 := hide (Nat.le_trans HB332.out.size hg336)
            clear hg336
            have HB345 := hide (below_then HB327.out hb335)
            have HB346 := hide (below_then HB328.out hb335)
            have HB347 := hide (below_then HB329.out hb335)
            have HB348 := hide (below_then HB330.out hb335)
            have HB349 := hide (below_then HB332.out hb335)
            clear hb335 HB327 HB328 HB329 HB330 HB332
            have HB351 : Hid (Below w334.heap.size w334 w334) := Below.refl _ _
            refine seg_nil (hK318 _ _ ?_)
            clear hK318 K318 QK318
            have hM352 := hM338.cut5 (t1 := 3) (t2 := 0) (t3 := 4) (t4 := 6) (t5 := 7) rfl rfl rfl rfl rfl
            clear hM338
            refine region_then fun K353 QK353 hK353 => ?_
            refine s_val hM352 (.inl rfl) rfl rfl (ev_fldw (m := 1) rfl rfl (fun w => by simp [go_sem])) (fun a355 hM354 => ?_)
            clear hM352
            refine s_val hM354 (.inl rfl) rfl rfl (ev_load1 (v := .int .i64 (x.f)) rfl rfl ((KB337.out.on HB351.out).rng.at_ (m := 1) (by rw [HD2.out]; rfl)) (isAgg_no Try.underlying3 rfl)) (fun a357 hM356 => ?_)
            clear hM354
            refine s_val hM356 (.inl rfl) rfl rfl (ev_fldw (m := 2) rfl rfl (fun w => by simp [go_sem])) (fun a359 hM358 => ?_)
            clear hM356
            refine s_put hM358 rfl rfl rfl rfl rfl (KB337.out.on HB351.out) (by rw [HD2.out]; exact (by decide : 2 < 18)) (st_int Try.underlying3 (by kernel_rfl)) (fun w360 KB361_ hg362 => ?_)
            obtain ⟨E2, HE2⟩ : ∃ E : Array Value, Hid (E = msC { x with k := x.k, t := x.f } u2) := ⟨_, rfl⟩
            have KB361 : Hid (Blk w360 g333 32 E2) := by have h := KB361_; rw [HD2.out] at h; rw [HE2.out]; exact h
            clear KB361_
            have HB363 := hide (below_of_grown HB345.out hg362 HB345.out.size lo340.out)
            have HB364 := hide (below_of_grown HB346.out hg362 HB346.out.size lo341.out)
            have HB365 := hide (below_of_grown HB347.out hg362 HB347.out.size lo342.out)
            have HB366 := hide (below_of_grown HB348.out hg362 HB348.out.size lo343.out)
            have HB367 := hide (below_of_grown HB349.out hg362 HB349.out.size lo344.out)
            clear HB345 HB346 HB347 HB348 HB349 HB351 hg362
            have HB369 : Hid (Below w360.heap.size w360 w360) := Below.refl _ _
            refine seg_nil (hK353 _ _ ?_)
            clear hK353 K353 QK353
            have hM370 := hM358.cut5 (t1 := 3) (t2 := 0) (t3 := 4) (t4 := 6) (t5 := 7) rfl rfl rfl rfl rfl
            clear hM358
            refine region_then fun K371 QK371 hK371 => ?_
            refine s_val hM370 (.inl rfl) rfl rfl (ev_fldw (m := 0) rfl rfl (fun w => by simp [go_sem])) (fun a373 hM372 => ?_)
            clear hM370
            refine s_val hM372 (.inl rfl) rfl rfl (ev_loadm rfl rfl (HRCg77.out.below HB364.out) Try.underlying32 rfl (by rw [HC.out]; exact Try.infoMsg)) (fun a375 hM374 => ?_)
            clear hM372
            refine s_call hM374 (.inl rfl) rfl rfl (f := 24) (args := #[.agg C]) (ev_call hM374 rfl rfl rfl (fun w => by simp [go_sem]) _) (copy_msg (hide (HS.out.below HB363.out)) HK HZ HC) (fun e w376 hp => ?_)
            obtain ⟨D3, u3, rfl, HD3, HSD3, HZD3, hb377⟩ := hp
            refine ⟨_, rfl, fun a379 hM378 => ?_⟩
            clear hM374
            have HB380 := hide (below_then HB363.out hb377)
            have HB381 := hide (below_then HB364.out hb377)
            have HB382 := hide (below_then HB365.out hb377)
            have HB383 := hide (below_then HB366.out hb377)
            have HB384 := hide (below_then HB367.out hb377)
            have HB385 := hide (below_then HB369.out hb377)
            clear hb377 HB363 HB364 HB365 HB366 HB367 HB369
            have HB387 : Hid (Below w376.heap.size w376 w376) := Below.refl _ _
            refine s_new hM378 rfl rfl rfl rfl alloc_msg rfl rfl rfl rfl (by rw [HD3.out]; exact Try.infoMsg) (by rw [HD3.out]; rfl) (one_msg HD3.out) (fun g388 a394 w389 hM393 KB392_ hb390 hg391 => ?_)
            have KB392 := hide KB392_
            clear hM378 KB392_
            have lo395 := hide (Nat.le_trans HB380.out.size hg391)
            have lo396 := hide (Nat.le_trans HB381.out.size hg391)
            have lo397 := hide (Nat.le_trans HB382.out.size hg391)
            have lo398 := hide (Nat.le_trans HB383.out.size hg391)
            have lo399 := hide (Nat.le_trans HB384.out.size hg391)
            have lo400 := hide (Nat.le_trans HB385.out.size hg391)
            have lo401 := hide (Nat.le_trans HB387.out.size hg391)
            clear hg391
            have HB402 := hide (below_then HB380.out hb390)
            have HB403 := hide (below_then HB381.out hb390)
            have HB404 := hide (below_then HB382.out hb390)
            have HB405 := hide (below_then HB383.out hb390)
            have HB406 := hide (below_then HB384.out hb390)
            have HB407 := hide (below_then HB385.out hb390)
            have HB408 := hide (below_then HB387.out hb390)
            clear hb390 HB380 HB381 HB382 HB383 HB384 HB385 HB387
            have HB410 : Hid (Below w389.heap.size w389 w389) := Below.refl _ _
            refine seg_nil (hK371 _ _ ?_)
            clear hK371 K371 QK371
            have hM411 := hM393.cut6 (t1 := 3) (t2 := 0) (t3 := 4) (t4 := 6) (t5 := 7) (t6 := 8) rfl rfl rfl rfl rfl rfl
            clear hM393
            refine region_then fun K412 QK412 hK412 => ?_
            refine s_val hM411 (.inl rfl) rfl rfl (ev_fldw (m := 0) rfl rfl (fun w => by simp [go_sem])) (fun a414 hM413 => ?_)
            clear hM411
            refine s_put hM413 rfl rfl rfl rfl rfl (KB392.out.on HB410.out) (by rw [HD3.out]; exact (by decide : 0 < 18)) (st_int Try.underlying3 (by kernel_rfl)) (fun w415 KB416_ hg417 => ?_)
            obtain ⟨E3, HE3⟩ : ∃ E : Array Value, Hid (E = msC { x with k := 9, t := x.t } u3) := ⟨_, rfl⟩
            have KB416 : Hid (Blk w415 g388 32 E3) := by have h := KB416_; rw [HD3.out] at h; rw [HE3.out]; exact h
            clear KB416_
            have HB418 := hide (below_of_grown HB402.out hg417 HB402.out.size lo395.out)
            have HB419 := hide (below_of_grown HB403.out hg417 HB403.out.size lo396.out)
            have HB420 := hide (below_of_grown HB404.out hg417 HB404.out.size lo397.out)
            have HB421 := hide (below_of_grown HB405.out hg417 HB405.out.size lo398.out)
            have HB422 := hide (below_of_grown HB406.out hg417 HB406.out.size lo399.out)
            have HB423 := hide (below_of_grown HB407.out hg417 HB407.out.size lo400.out)
            have HB424 := hide (below_of_grown HB408.out hg417 HB408.out.size lo401.out)
            clear HB402 HB403 HB404 HB405 HB406 HB407 HB408 HB410 hg417
            have HB426 : Hid (Below w415.heap.size w415 w415) := Below.refl _ _
            refine seg_nil (hK412 _ _ ?_)
            clear hK412 K412 QK412
            have hM427 := hM413.cut6 (t1 := 3) (t2 := 0) (t3 := 4) (t4 := 6) (t5 := 7) (t6 := 8) rfl rfl rfl rfl rfl rfl
            clear hM413
            refine region_then fun K428 QK428 hK428 => ?_
            refine s_val hM427 (.inl rfl) rfl rfl (ev_loadm rfl rfl (KB310.out.on HB421.out).rng Try.underlying32 rfl (by rw [HE1.out]; exact Try.infoMsg)) (fun a430 hM429 => ?_)
            clear hM427
            refine s_val hM429 (.inl rfl) rfl rfl (ev_fldw (m := 18) rfl rfl (fun w => by simp [go_sem])) (fun a432 hM431 => ?_)
            clear hM429
            refine s_val hM431 (.inl rfl) rfl rfl (ev_load1 (v := .int .i64 N) rfl rfl ((KB81.out.on HB419.out).rng.at_ (m := 18) (by rw [HPC.out]; rfl)) (isAgg_no Try.underlying3 rfl)) (fun a434 hM433 => ?_)
            clear hM431
            refine s_call hM433 (.inl rfl) rfl rfl (f := 25) (args := #[.agg E1, .int .i64 N]) (ev_call hM433 rfl rfl rfl (fun w => by simp [go_sem]) _) (message_Check N { x with k := x.k, t := N + 1 } u1 _ (hide ((HSD1.out.below HB420.out).to (x.k) (N + 1))) (hide (HZD1.out.1.to (x.k) (N + 1))) HE1 (r := false) (mayM_to (Or.inl rfl))) (fun e w435 hp => ?_)
            obtain ⟨rfl, hb436⟩ := hp
            refine ⟨_, rfl, fun a438 hM437 => ?_⟩
            clear hM433
            have HB439 := hide (below_then HB418.out hb436)
            have HB440 := hide (below_then HB419.out hb436)
            have HB441 := hide (below_then HB420.out hb436)
            have HB442 := hide (below_then HB421.out hb436)
            have HB443 := hide (below_then HB422.out hb436)
            have HB444 := hide (below_then HB423.out hb436)
            have HB445 := hide (below_then HB424.out hb436)
            have HB446 := hide (below_then HB426.out hb436)
            clear hb436 HB418 HB419 HB420 HB421 HB422 HB423 HB424 HB426
            refine s_call hM437 (.inl rfl) rfl rfl (f := 18) (args := #[.int .i64 ((formE false))]) (ev_call hM437 rfl rfl rfl (fun w => by simp [go_sem]) _) (law7_num _ _) (fun e w447 hp => ?_)
            obtain ⟨rfl, rfl⟩ := hp
            refine ⟨_, rfl, fun a450 hM449 => ?_⟩
            clear hM437
            refine s_val hM449 (.inl rfl) rfl rfl (ev_bin rfl rfl rfl g_int (b_neq (b := false) (by decide))) (fun a452 hM451 => ?_)
            clear hM449
            refine s_val hM451 (.inl rfl) rfl rfl (ev_move (.inl rfl) rfl) (fun a454 hM453 => ?_)
            clear hM451
            refine s_val hM453 (.inr ⟨_, _, _, rfl, rfl, rfl⟩) rfl rfl (ev_loadm rfl rfl (KB361.out.on HB444.out).rng Try.underlying32 rfl (by rw [HE2.out]; exact Try.infoMsg)) (fun a456 hM455 => ?_)
            clear hM453
            refine s_val hM455 (.inr ⟨_, _, _, rfl, rfl, rfl⟩) rfl rfl (ev_fldw (m := 18) rfl rfl (fun w => by simp [go_sem])) (fun a458 hM457 => ?_)
            clear hM455
            refine s_val hM457 (.inr ⟨_, _, _, rfl, rfl, rfl⟩) rfl rfl (ev_load1 (v := .int .i64 N) rfl rfl ((KB81.out.on HB440.out).rng.at_ (m := 18) (by rw [HPC.out]; rfl)) (isAgg_no Try.underlying3 rfl)) (fun a460 hM459 => ?_)
            clear hM457
            refine s_call hM459 (.inr ⟨_, _, _, rfl, rfl, rfl⟩) rfl rfl (f := 25) (args := #[.agg E2, .int .i64 N]) (ev_call hM459 rfl rfl rfl (fun w => by simp [go_sem]) _) (message_Check N { x with k := x.k, t := x.f } u2 _ (hide ((HSD2.out.below HB443.out).to (x.k) (x.f))) (hide (HZD2.out.1.to (x.k) (x.f))) HE2 (r := false) (mayM_to (Or.inr rfl))) (fun e w461 hp => ?_)
            obtain ⟨rfl, hb462⟩ := hp
            refine ⟨_, rfl, fun a464 hM463 => ?_⟩
            clear hM459
            have HB465 := hide (below_then HB439.out hb462)
            have HB466 := hide (below_then HB440.out hb462)
            have HB467 := hide (below_then HB441.out hb462)
            have HB468 := hide (below_then HB442.out hb462)
            have HB469 := hide (below_then HB443.out hb462)
            have HB470 := hide (below_then HB444.out hb462)
            have HB471 := hide (below_then HB445.out hb462)
            have HB472 := hide (below_then HB446.out hb462)
            clear hb462 HB439 HB440 HB441 HB442 HB443 HB444 HB445 HB446
            refine s_call hM463 (.inr ⟨_, _, _, rfl, rfl, rfl⟩) rfl rfl (f := 18) (args := #[.int .i64 ((formE false))]) (ev_call hM463 rfl rfl rfl (fun w => by simp [go_sem]) _) (law7_num _ _) (fun e w473 hp => ?_)
            obtain ⟨rfl, rfl⟩ := hp
            refine ⟨_, rfl, fun a476 hM475 => ?_⟩
            clear hM463
            refine s_val hM475 (.inr ⟨_, _, _, rfl, rfl, rfl⟩) rfl rfl (ev_bin rfl rfl rfl g_int (b_neq (b := false) (by decide))) (fun a478 hM477 => ?_)
            clear hM475
            refine s_val hM477 (.inl rfl) rfl rfl (ev_pick rfl rfl rfl) (fun a480 hM479 => ?_)
            clear hM477
            refine s_val hM479 (.inl rfl) rfl rfl (ev_move (.inl rfl) rfl) (fun a482 hM481 => ?_)
            clear hM479
            refine s_val hM481 (.inr ⟨_, _, _, rfl, rfl, rfl⟩) rfl rfl (ev_loadm rfl rfl (KB416.out.on HB472.out).rng Try.underlying32 rfl (by rw [HE3.out]; exact Try.infoMsg)) (fun a484 hM483 => ?_)
            clear hM481
            refine s_val hM483 (.inr ⟨_, _, _, rfl, rfl, rfl⟩) rfl rfl (ev_fldw (m := 18) rfl rfl (fun w => by simp [go_sem])) (fun a486 hM485 => ?_)
            clear hM483
            refine s_val hM485 (.inr ⟨_, _, _, rfl, rfl, rfl⟩) rfl rfl (ev_load1 (v := .int .i64 N) rfl rfl ((KB81.out.on HB466.out).rng.at_ (m := 18) (by rw [HPC.out]; rfl)) (isAgg_no Try.underlying3 rfl)) (fun a488 hM487 => ?_)
            clear hM485
            refine s_call hM487 (.inr ⟨_, _, _, rfl, rfl, rfl⟩) rfl rfl (f := 25) (args := #[.agg E3, .int .i64 N]) (ev_call hM487 rfl rfl rfl (fun w => by simp [go_sem]) _) (message_Check N { x with k := 9, t := x.t } u3 _ (hide ((HSD3.out.below HB471.out).to (9) (x.t))) (hide (HZD3.out.1.to (9) (x.t))) HE3 (r := false) mayM_nine) (fun e w489 hp => ?_)
            obtain ⟨rfl, hb490⟩ := hp
            refine ⟨_, rfl, fun a492 hM491 => ?_⟩
            clear hM487
            have HB493 := hide (below_then HB465.out hb490)
            have HB494 := hide (below_then HB466.out hb490)
            have HB495 := hide (below_then HB467.out hb490)
            have HB496 := hide (below_then HB468.out hb490)
            have HB497 := hide (below_then HB469.out hb490)
            have HB498 := hide (below_then HB470.out hb490)
            have HB499 := hide (below_then HB471.out hb490)
            have HB500 := hide (below_then HB472.out hb490)
            clear hb490 HB465 HB466 HB467 HB468 HB469 HB470 HB471 HB472
            refine s_call hM491 (.inr ⟨_, _, _, rfl, rfl, rfl⟩) rfl rfl (f := 18) (args := #[.int .i64 ((formE false))]) (ev_call hM491 rfl rfl rfl (fun w => by simp [go_sem]) _) (law7_num _ _) (fun e w501 hp => ?_)
            obtain ⟨rfl, rfl⟩ := hp
            refine ⟨_, rfl, fun a504 hM503 => ?_⟩
            clear hM491
            refine s_val hM503 (.inr ⟨_, _, _, rfl, rfl, rfl⟩) rfl rfl (ev_bin rfl rfl rfl g_int (b_neq (b := false) (by decide))) (fun a506 hM505 => ?_)
            clear hM503
            refine s_val hM505 (.inl rfl) rfl rfl (ev_pick rfl rfl rfl) (fun a508 hM507 => ?_)
            clear hM505
            refine seg_nil (hK428 _ _ ?_)
            clear hK428 K428 QK428
            have hM509 := hM507.cut3 (t1 := 3) (t2 := 0) (t3 := 98) rfl rfl rfl
            clear hM507
            refine wp_cond_false (hM509.ev (t := 98) rfl) ?_
            refine wp_skip ?_
            have hM510 := hM509.cut2 (t1 := 3) (t2 := 0) rfl rfl
            clear hM509
            exact hN _ _ hM510 HB493
          case neg =>
            have H4 := hide h4
            clear h4
            by_cases h6 : x.k = 6
            case pos =>
              have H6 := hide h6
              clear h6
              refine region_then fun K511 QK511 hK511 => ?_
              refine s_val hM221 (.inl rfl) rfl rfl (ev_fldw (m := 0) rfl rfl (fun w => by simp [go_sem])) (fun a513 hM512 => ?_)
              clear hM221
              refine s_val hM512 (.inl rfl) rfl rfl (ev_fldw (m := 0) rfl rfl (fun w => by simp [go_sem])) (fun a515 hM514 => ?_)
              clear hM512
              refine s_val hM514 (.inl rfl) rfl rfl (ev_load1 (v := .int .i64 (x.k)) rfl rfl ((HRCg77.out.below HB202.out).at_ (m := 0) (by rw [HC.out]; rfl)) (isAgg_no Try.underlying3 rfl)) (fun a517 hM516 => ?_)
              clear hM514
              refine s_val hM516 (.inl rfl) rfl rfl (ev_bin rfl rfl rfl g_int (b_neq (b := true) (decide_eq_true H4.out))) (fun a519 hM518 => ?_)
              clear hM516
              refine s_val hM518 (.inl rfl) rfl rfl (ev_move (.inl rfl) rfl) (fun a521 hM520 => ?_)
              clear hM518
              refine s_val hM520 (.inr ⟨_, _, _, rfl, rfl, rfl⟩) rfl rfl (ev_fldw (m := 0) rfl rfl (fun w => by simp [go_sem])) (fun a523 hM522 => ?_)
              clear hM520
              refine s_val hM522 (.inr ⟨_, _, _, rfl, rfl, rfl⟩) rfl rfl (ev_fldw (m := 0) rfl rfl (fun w => by simp [go_sem])) (fun a525 hM524 => ?_)
              clear hM522
              refine s_val hM524 (.inr ⟨_, _, _, rfl, rfl, rfl⟩) rfl rfl (ev_load1 (v := .int .i64 (x.k)) rfl rfl ((HRCg77.out.below HB202.out).at_ (m := 0) (by rw [HC.out]; rfl)) (isAgg_no Try.underlying3 rfl)) (fun a527 hM526 => ?_)
              clear hM524
              refine s_val hM526 (.inr ⟨_, _, _, rfl, rfl, rfl⟩) rfl rfl (ev_bin rfl rfl rfl g_int (b_neq (b := false) (by have := H6.out; simp [this]))) (fun a529 hM528 => ?_)
              clear hM526
              refine s_val hM528 (.inl rfl) rfl rfl (ev_pick rfl rfl rfl) (fun a531 hM530 => ?_)
              clear hM528
              refine s_val hM530 (.inl rfl) rfl rfl (ev_move (.inr rfl) rfl) (fun a533 hM532 => ?_)
              clear hM530
              refine seg_nil (hK511 _ _ ?_)
              clear hK511 K511 QK511
              have hM534 := hM532.cut4 (t1 := 3) (t2 := 0) (t3 := 4) (t4 := 5) rfl rfl rfl rfl
              clear hM532
              refine wp_seq_k fun K535 hK535 => ?_
              refine region_then fun K536 QK536 hK536 => ?_
              refine s_val hM534 (.inl rfl) rfl rfl (ev_move (.inl rfl) rfl) (fun a538 hM537 => ?_)
              clear hM534
              refine s_val hM537 (.inl rfl) rfl rfl (ev_move (.inl rfl) rfl) (fun a540 hM539 => ?_)
              clear hM537
              refine s_skip hM539 rfl rfl rfl rfl rfl rfl (fun a542 hM541 => ?_)
              clear hM539
              refine s_skip hM541 rfl rfl rfl rfl rfl rfl (fun a544 hM543 => ?_)
              clear hM541
              refine s_skip hM543 rfl rfl rfl rfl rfl rfl (fun a546 hM545 => ?_)
              clear hM543
              refine s_skip hM545 rfl rfl rfl rfl rfl rfl (fun a548 hM547 => ?_)
              clear hM545
              refine s_skip hM547 rfl rfl rfl rfl rfl rfl (fun a550 hM549 => ?_)
              clear hM547
              refine s_skip hM549 rfl rfl rfl rfl rfl rfl (fun a552 hM551 => ?_)
              clear hM549
              refine s_skip hM551 rfl rfl rfl rfl rfl rfl (fun a554 hM553 => ?_)
              clear hM551
              refine s_skip hM553 rfl rfl rfl rfl rfl rfl (fun a556 hM555 => ?_)
              clear hM553
              refine s_val hM555 (.inl rfl) rfl rfl (ev_pick rfl rfl rfl) (fun a558 hM557 => ?_)
              clear hM555
              refine seg_nil (hK536 _ _ ?_)
              clear hK536 K536 QK536
              have hM559 := hM557.cut4 (t1 := 3) (t2 := 0) (t3 := 4) (t4 := 59) rfl rfl rfl rfl
              clear hM557
              refine wp_cond_false (hM559.ev (t := 59) rfl) ?_
              refine wp_skip ?_
              refine hK535 _ _ ?_
              refine region_then fun K560 QK560 hK560 => ?_
              refine s_val hM559 (.inl rfl) rfl rfl (ev_fldw (m := 0) rfl rfl (fun w => by simp [go_sem])) (fun a562 hM561 => ?_)
              clear hM559
              refine s_val hM561 (.inl rfl) rfl rfl (ev_loadm rfl rfl (HRCg77.out.below HB202.out) Try.underlying32 rfl (by rw [HC.out]; exact Try.infoMsg)) (fun a564 hM563 => ?_)
              clear hM561
              refine s_call hM563 (.inl rfl) rfl rfl (f := 24) (args := #[.agg C]) (ev_call hM563 rfl rfl rfl (fun w => by simp [go_sem]) _) (copy_msg (hide (HS.out.below HB201.out)) HK HZ HC) (fun e w565 hp => ?_)
              obtain ⟨D1, u1, rfl, HD1, HSD1, HZD1, hb566⟩ := hp
              refine ⟨_, rfl, fun a568 hM567 => ?_⟩
              clear hM563
              have HB569 := hide (below_then HB201.out hb566)
              have HB570 := hide (below_then HB202.out hb566)
              clear hb566 HB201 HB202
              have HB572 : Hid (Below w565.heap.size w565 w565) := Below.refl _ _
              refine s_new hM567 rfl rfl rfl rfl alloc_msg rfl rfl rfl rfl (by rw [HD1.out]; exact Try.infoMsg) (by rw [HD1.out]; rfl) (one_msg HD1.out) (fun g573 a579 w574 hM578 KB577_ hb575 hg576 => ?_)
              have KB577 := hide KB577_
              clear hM567 KB577_
              have lo580 := hide (Nat.le_trans HB569.out.size hg576)
              have lo581 := hide (Nat.le_trans HB570.out.size hg576)
              have lo582 := hide (Nat.le_trans HB572.out.size hg576)
              clear hg576
              have HB583 := hide (below_then HB569.out hb575)
              have HB584 := hide (below_then HB570.out hb575)
              have HB585 := hide (below_then HB572.out hb575)
              clear hb575 HB569 HB570 HB572
              have HB587 : Hid (Below w574.heap.size w574 w574) := Below.refl _ _
              refine seg_nil (hK560 _ _ ?_)
              clear hK560 K560 QK560
              have hM588 := hM578.cut4 (t1 := 3) (t2 := 0) (t3 := 4) (t4 := 6) rfl rfl rfl rfl
              clear hM578
              refine region_then fun K589 QK589 hK589 => ?_
              refine s_val hM588 (.inl rfl) rfl rfl (ev_fldw (m := 18) rfl rfl (fun w => by simp [go_sem])) (fun a591 hM590 => ?_)
              clear hM588
              refine s_val hM590 (.inl rfl) rfl rfl (ev_load1 (v := .int .i64 N) rfl rfl ((KB81.out.on HB584.out).rng.at_ (m := 18) (by rw [HPC.out]; rfl)) (isAgg_no Try.underlying3 rfl)) (fun a593 hM592 => ?_)
              clear hM590
              refine s_val hM592 (.inl rfl) rfl rfl (ev_bin rfl rfl rfl g_int (b_add (r := (N + 1)) rfl (by have := HN.out; omega))) (fun a595 hM594 => ?_)
              clear hM592
              refine s_val hM594 (.inl rfl) rfl rfl (ev_fldw (m := 2) rfl rfl (fun w => by simp [go_sem])) (fun a597 hM596 => ?_)
              clear hM594
              refine s_put hM596 rfl rfl rfl rfl rfl (KB577.out.on HB587.out) (by rw [HD1.out]; exact (by decide : 2 < 18)) (st_int Try.underlying3 (by kernel_rfl)) (fun w598 KB599_ hg600 => ?_)
              obtain ⟨E1, HE1⟩ : ∃ E : Array Value, Hid (E = msC { x with k := x.k, t := N + 1 } u1) := ⟨_, rfl⟩
              have KB599 : Hid (Blk w598 g573 32 E1) := by have h := KB599_; rw [HD1.out] at h; rw [HE1.out]; exact h
              clear KB599_
              have HB601 := hide (below_of_grown HB583.out hg600 HB583.out.size lo580.out)
              have HB602 := hide (below_of_grown HB584.out hg600 HB584.out.size lo581.out)
              have HB603 := hide (below_of_grown HB585.out hg600 HB585.out.size lo582.out)
              clear HB583 HB584 HB585 HB587 hg600
              have HB605 : Hid (Below w598.heap.size w598 w598) := Below.refl _ _
              refine seg_nil (hK589 _ _ ?_)
              clear hK589 K589 QK589
              have hM606 := hM596.cut4 (t1 := 3) (t2 := 0) (t3 := 4) (t4 := 6) rfl rfl rfl rfl
              clear hM596
              refine region_then fun K607 QK607 hK607 => ?_
              refine s_val hM606 (.inl rfl) rfl rfl (ev_fldw (m := 0) rfl rfl (fun w => by simp [go_sem])) (fun a609 hM608 => ?_)
              clear hM606
              refine s_val hM608 (.inl rfl) rfl rfl (ev_loadm rfl rfl (HRCg77.out.below HB602.out) Try.underlying32 rfl (by rw [HC.out]; exact Try.infoMsg)) (fun a611 hM610 => ?_)
              clear hM608
              refine s_call hM610 (.inl rfl) rfl rfl (f := 24) (args := #[.agg C]) (ev_call hM610 rfl rfl rfl (fun w => by simp [go_sem]) _) (copy_msg (hide (HS.out.below HB601.out)) HK HZ HC) (fun e w612 hp => ?_)
              obtain ⟨D2, u2, rfl, HD2, HSD2, HZD2, hb613⟩ := hp
              refine ⟨_, rfl, fun a615 hM614 => ?_⟩
              clear hM610
              have HB616 := hide (below_then HB601.out hb613)
              have HB617 := hide (below_then HB602.out hb613)
              have HB618 := hide (below_then HB603.out hb613)
              have HB619 := hide (below_then HB605.out hb613)
              clear hb613 HB601 HB602 HB603 HB605
              have HB621 : Hid (Below w612.heap.size w612 w612) := Below.refl _ _
              refine s_new hM614 rfl rfl rfl rfl alloc_msg rfl rfl rfl rfl (by rw [HD2.out]; exact Try.infoMsg) (by rw [HD2.out]; rfl) (one_msg HD2.out) (fun g622 a628 w623 hM627 KB626_ hb624 hg625 => ?_)
              have KB626 := hide KB626_
              clear hM614 KB626_
              have lo629 := hide (Nat.le_trans HB616.out.size hg625)
              have lo630 := hide (Nat.le_trans HB617.out.size hg625)
              have lo631 := hide (Nat.le_trans HB618.out.size hg625)
              have lo632 := hide (Nat.le_trans HB619.out.size hg625)
              have lo633 := hide (Nat.le_trans HB621.out.size hg625)
              clear hg625
              have HB634 := hide (below_then HB616.out hb624)
              have HB635 := hide (below_then HB617.out hb624)
              have HB636 := hide (below_then HB618.out hb624)
              have HB637 := hide (below_then HB619.out hb624)
              have HB638 := hide (below_then HB621.out hb624)
              clear hb624 HB616 HB617 HB618 HB619 HB621
              have HB640 : Hid (Below w623.heap.size w623 w623) := Below.refl _ _
              refine seg_nil (hK607 _ _ ?_)
              clear hK607 K607 QK607
              have hM641 := hM627.cut5 (t1 := 3) (t2 := 0) (t3 := 4) (t4 := 6) (t5 := 7) rfl rfl rfl rfl rfl
              clear hM627
              refine region_then fun K642 QK642 hK642 => ?_
              refine s_val hM641 (.inl rfl) rfl rfl (ev_fldw (m := 1) rfl rfl (fun w => by simp [go_sem])) (fun a644 hM643 => ?_)
              clear hM641
              refine s_val hM643 (.inl rfl) rfl rfl (ev_load1 (v := .int .i64 (x.f)) rfl rfl ((KB626.out.on HB640.out).rng.at_ (m := 1) (by rw [HD2.out]; rfl)) (isAgg_no Try.underlying3 rfl)) (fun a646 hM645 => ?_)
              clear hM643
              refine s_val hM645 (.inl rfl) rfl rfl (ev_fldw (m := 2) rfl rfl (fun w => by simp [go_sem])) (fun a648 hM647 => ?_)
              clear hM645
              refine s_put hM647 rfl rfl rfl rfl rfl (KB626.out.on HB640.out) (by rw [HD2.out]; exact (by decide : 2 < 18)) (st_int Try.underlying3 (by kernel_rfl)) (fun w649 KB650_ hg651 => ?_)
              obtain ⟨E2, HE2⟩ : ∃ E : Array Value, Hid (E = msC { x with k := x.k, t := x.f } u2) := ⟨_, rfl⟩
              have KB650 : Hid (Blk w649 g622 32 E2) := by have h := KB650_; rw [HD2.out] at h; rw [HE2.out]; exact h
              clear KB650_
              have HB652 := hide (below_of_grown HB634.out hg651 HB634.out.size lo629.out)
              have HB653 := hide (below_of_grown HB635.out hg651 HB635.out.size lo630.out)
              have HB654 := hide (below_of_grown HB636.out hg651 HB636.out.size lo631.out)
              have HB655 := hide (below_of_grown HB637.out hg651 HB637.out.size lo632.out)
              have HB656 := hide (below_of_grown HB638.out hg651 HB638.out.size lo633.out)
              clear HB634 HB635 HB636 HB637 HB638 HB640 hg651
              have HB658 : Hid (Below w649.heap.size w649 w649) := Below.refl _ _
              refine seg_nil (hK642 _ _ ?_)
              clear hK642 K642 QK642
              have hM659 := hM647.cut5 (t1 := 3) (t2 := 0) (t3 := 4) (t4 := 6) (t5 := 7) rfl rfl rfl rfl rfl
              clear hM647
              refine region_then fun K660 QK660 hK660 => ?_
              refine s_val hM659 (.inl rfl) rfl rfl (ev_fldw (m := 0) rfl rfl (fun w => by simp [go_sem])) (fun a662 hM661 => ?_)
              clear hM659
              refine s_val hM661 (.inl rfl) rfl rfl (ev_loadm rfl rfl (HRCg77.out.below HB653.out) Try.underlying32 rfl (by rw [HC.out]; exact Try.infoMsg)) (fun a664 hM663 => ?_)
              clear hM661
              refine s_call hM663 (.inl rfl) rfl rfl (f := 24) (args := #[.agg C]) (ev_call hM663 rfl rfl rfl (fun w => by simp [go_sem]) _) (copy_msg (hide (HS.out.below HB652.out)) HK HZ HC) (fun e w665 hp => ?_)
              obtain ⟨D3, u3, rfl, HD3, HSD3, HZD3, hb666⟩ := hp
              refine ⟨_, rfl, fun a668 hM667 => ?_⟩
              clear hM663
              have HB669 := hide (below_then HB652.out hb666)
              have HB670 := hide (below_then HB653.out hb666)
              have HB671 := hide (below_then HB654.out hb666)
              have HB672 := hide (below_then HB655.out hb666)
              have HB673 := hide (below_then HB656.out hb666)
              have HB674 := hide (below_then HB658.out hb666)
              clear hb666 HB652 HB653 HB654 HB655 HB656 HB658
              have HB676 : Hid (Below w665.heap.size w665 w665) := Below.refl _ _
              refine s_new hM667 rfl rfl rfl rfl alloc_msg rfl rfl rfl rfl (by rw [HD3.out]; exact Try.infoMsg) (by rw [HD3.out]; rfl) (one_msg HD3.out) (fun g677 a683 w678 hM682 KB681_ hb679 hg680 => ?_)
              have KB681 := hide KB681_
              clear hM667 KB681_
              have lo684 := hide (Nat.le_trans HB669.out.size hg680)
              have lo685 := hide (Nat.le_trans HB670.out.size hg680)
              have lo686 := hide (Nat.le_trans HB671.out.size hg680)
              have lo687 := hide (Nat.le_trans HB672.out.size hg680)
              have lo688 := hide (Nat.le_trans HB673.out.size hg680)
              have lo689 := hide (Nat.le_trans HB674.out.size hg680)
              have lo690 := hide (Nat.le_trans HB676.out.size hg680)
              clear hg680
              have HB691 := hide (below_then HB669.out hb679)
              have HB692 := hide (below_then HB670.out hb679)
              have HB693 := hide (below_then HB671.out hb679)
              have HB694 := hide (below_then HB672.out hb679)
              have HB695 := hide (below_then HB673.out hb679)
              have HB696 := hide (below_then HB674.out hb679)
              have HB697 := hide (below_then HB676.out hb679)
              clear hb679 HB669 HB670 HB671 HB672 HB673 HB674 HB676
              have HB699 : Hid (Below w678.heap.size w678 w678) := Below.refl _ _
              refine seg_nil (hK660 _ _ ?_)
              clear hK660 K660 QK660
              have hM700 := hM682.cut6 (t1 := 3) (t2 := 0) (t3 := 4) (t4 := 6) (t5 := 7) (t6 := 8) rfl rfl rfl rfl rfl rfl
              clear hM682
              refine region_then fun K701 QK701 hK701 => ?_
              refine s_val hM700 (.inl rfl) rfl rfl (ev_fldw (m := 0) rfl rfl (fun w => by simp [go_sem])) (fun a703 hM702 => ?_)
              clear hM700
              refine s_put hM702 rfl rfl rfl rfl rfl (KB681.out.on HB699.out) (by rw [HD3.out]; exact (by decide : 0 < 18)) (st_int Try.underlying3 (by kernel_rfl)) (fun w704 KB705_ hg706 => ?_)
              obtain ⟨E3, HE3⟩ : ∃ E : Array Value, Hid (E = msC { x with k := 9, t := x.t } u3) := ⟨_, rfl⟩
              have KB705 : Hid (Blk w704 g677 32 E3) := by have h := KB705_; rw [HD3.out] at h; rw [HE3.out]; exact h
              clear KB705_
              have HB707 := hide (below_of_grown HB691.out hg706 HB691.out.size lo684.out)
              have HB708 := hide (below_of_grown HB692.out hg706 HB692.out.size lo685.out)
              have HB709 := hide (below_of_grown HB693.out hg706 HB693.out.size lo686.out)
              have HB710 := hide (below_of_grown HB694.out hg706 HB694.out.size lo687.out)
              have HB711 := hide (below_of_grown HB695.out hg706 HB695.out.size lo688.out)
              have HB712 := hide (below_of_grown HB696.out hg706 HB696.out.size lo689.out)
              have HB713 := hide (below_of_grown HB697.out hg706 HB697.out.size lo690.out)
              clear HB691 HB692 HB693 HB694 HB695 HB696 HB697 HB699 hg706
              have HB715 : Hid (Below w704.heap.size w704 w704) := Below.refl _ _
              refine seg_nil (hK701 _ _ ?_)
              clear hK701 K701 QK701
              have hM716 := hM702.cut6 (t1 := 3) (t2 := 0) (t3 := 4) (t4 := 6) (t5 := 7) (t6 := 8) rfl rfl rfl rfl rfl rfl
              clear hM702
              refine region_then fun K717 QK717 hK717 => ?_
              refine s_val hM716 (.inl rfl) rfl rfl (ev_loadm rfl rfl (KB599.out.on HB710.out).rng Try.underlying32 rfl (by rw [HE1.out]; exact Try.infoMsg)) (fun a719 hM718 => ?_)
              clear hM716
              refine s_val hM718 (.inl rfl) rfl rfl (ev_fldw (m := 18) rfl rfl (fun w => by simp [go_sem])) (fun a721 hM720 => ?_)
              clear hM718
              refine s_val hM720 (.inl rfl) rfl rfl (ev_load1 (v := .int .i64 N) rfl rfl ((KB81.out.on HB708.out).rng.at_ (m := 18) (by rw [HPC.out]; rfl)) (isAgg_no Try.underlying3 rfl)) (fun a723 hM722 => ?_)
              clear hM720
              refine s_call hM722 (.inl rfl) rfl rfl (f := 25) (args := #[.agg E1, .int .i64 N]) (ev_call hM722 rfl rfl rfl (fun w => by simp [go_sem]) _) (message_Check N { x with k := x.k, t := N + 1 } u1 _ (hide ((HSD1.out.below HB709.out).to (x.k) (N + 1))) (hide (HZD1.out.1.to (x.k) (N + 1))) HE1 (r := false) (mayM_to (Or.inl rfl))) (fun e w724 hp => ?_)
              obtain ⟨rfl, hb725⟩ := hp
              refine ⟨_, rfl, fun a727 hM726 => ?_⟩
              clear hM722
              have HB728 := hide (below_then HB707.out hb725)
              have HB729 := hide (below_then HB708.out hb725)
              have HB730 := hide (below_then HB709.out hb725)
              have HB731 := hide (below_then HB710.out hb725)
              have HB732 := hide (below_then HB711.out hb725)
              have HB733 := hide (below_then HB712.out hb725)
              have HB734 := hide (below_then HB713.out hb725)
              have HB735 := hide (below_then HB715.out hb725)
              clear hb725 HB707 HB708 HB709 HB710 HB711 HB712 HB713 HB715
              refine s_call hM726 (.inl rfl) rfl rfl (f := 18) (args := #[.int .i64 ((formE false))]) (ev_call hM726 rfl rfl rfl (fun w => by simp [go_sem]) _) (law7_num _ _) (fun e w736 hp => ?_)
              obtain ⟨rfl, rfl⟩ := hp
              refine ⟨_, rfl, fun a739 hM738 => ?_⟩
              clear hM726
              refine s_val hM738 (.inl rfl) rfl rfl (ev_bin rfl rfl rfl g_int (b_neq (b := false) (by decide))) (fun a741 hM740 => ?_)
              clear hM738
              refine s_val hM740 (.inl rfl) rfl rfl (ev_move (.inl rfl) rfl) (fun a743 hM742 => ?_)
              clear hM740
              refine s_val hM742 (.inr ⟨_, _, _, rfl, rfl, rfl⟩) rfl rfl (ev_loadm rfl rfl (KB650.out.on HB733.out).rng Try.underlying32 rfl (by rw [HE2.out]; exact Try.infoMsg)) (fun a745 hM744 => ?_)
              clear hM742
              refine s_val hM744 (.inr ⟨_, _, _, rfl, rfl, rfl⟩) rfl rfl (ev_fldw (m := 18) rfl rfl (fun w => by simp [go_sem])) (fun a747 hM746 => ?_)
              clear hM744
              refine s_val hM746 (.inr ⟨_, _, _, rfl, rfl, rfl⟩) rfl rfl (ev_load1 (v := .int .i64 N) rfl rfl ((KB81.out.on HB729.out).rng.at_ (m := 18) (by rw [HPC.out]; rfl)) (isAgg_no Try.underlying3 rfl)) (fun a749 hM748 => ?_)
              clear hM746
              refine s_call hM748 (.inr ⟨_, _, _, rfl, rfl, rfl⟩) rfl rfl (f := 25) (args := #[.agg E2, .int .i64 N]) (ev_call hM748 rfl rfl rfl (fun w => by simp [go_sem]) _) (message_Check N { x with k := x.k, t := x.f } u2 _ (hide ((HSD2.out.below HB732.out).to (x.k) (x.f))) (hide (HZD2.out.1.to (x.k) (x.f))) HE2 (r := false) (mayM_to (Or.inr rfl))) (fun e w750 hp => ?_)
              obtain ⟨rfl, hb751⟩ := hp
              refine ⟨_, rfl, fun a753 hM752 => ?_⟩
              clear hM748
              have HB754 := hide (below_then HB728.out hb751)
              have HB755 := hide (below_then HB729.out hb751)
              have HB756 := hide (below_then HB730.out hb751)
              have HB757 := hide (below_then HB731.out hb751)
              have HB758 := hide (below_then HB732.out hb751)
              have HB759 := hide (below_then HB733.out hb751)
              have HB760 := hide (below_then HB734.out hb751)
              have HB761 := hide (below_then HB735.out hb751)
              clear hb751 HB728 HB729 HB730 HB731 HB732 HB733 HB734 HB735
              refine s_call hM752 (.inr ⟨_, _, _, rfl, rfl, rfl⟩) rfl rfl (f := 18) (args := #[.int .i64 ((formE false))]) (ev_call hM752 rfl rfl rfl (fun w => by simp [go_sem]) _) (law7_num _ _) (fun e w762 hp => ?_)
              obtain ⟨rfl, rfl⟩ := hp
              refine ⟨_, rfl, fun a765 hM764 => ?_⟩
              clear hM752
              refine s_val hM764 (.inr ⟨_, _, _, rfl, rfl, rfl⟩) rfl rfl (ev_bin rfl rfl rfl g_int (b_neq (b := false) (by decide))) (fun a767 hM766 => ?_)
              clear hM764
              refine s_val hM766 (.inl rfl) rfl rfl (ev_pick rfl rfl rfl) (fun a769 hM768 => ?_)
              clear hM766
              refine s_val hM768 (.inl rfl) rfl rfl (ev_move (.inl rfl) rfl) (fun a771 hM770 => ?_)
              clear hM768
              refine s_val hM770 (.inr ⟨_, _, _, rfl, rfl, rfl⟩) rfl rfl (ev_loadm rfl rfl (KB705.out.on HB761.out).rng Try.underlying32 rfl (by rw [HE3.out]; exact Try.infoMsg)) (fun a773 hM772 => ?_)
              clear hM770
              refine s_val hM772 (.inr ⟨_, _, _, rfl, rfl, rfl⟩) rfl rfl (ev_fldw (m := 18) rfl rfl (fun w => by simp [go_sem])) (fun a775 hM774 => ?_)
              clear hM772
              refine s_val hM774 (.inr ⟨_, _, _, rfl, rfl, rfl⟩) rfl rfl (ev_load1 (v := .int .i64 N) rfl rfl ((KB81.out.on HB755.out).rng.at_ (m := 18) (by rw [HPC.out]; rfl)) (isAgg_no Try.underlying3 rfl)) (fun a777 hM776 => ?_)
              clear hM774
              refine s_call hM776 (.inr ⟨_, _, _, rfl, rfl, rfl⟩) rfl rfl (f := 25) (args := #[.agg E3, .int .i64 N]) (ev_call hM776 rfl rfl rfl (fun w => by simp [go_sem]) _) (message_Check N { x with k := 9, t := x.t } u3 _ (hide ((HSD3.out.below HB760.out).to (9) (x.t))) (hide (HZD3.out.1.to (9) (x.t))) HE3 (r := false) mayM_nine) (fun e w778 hp => ?_)
              obtain ⟨rfl, hb779⟩ := hp
              refine ⟨_, rfl, fun a781 hM780 => ?_⟩
              clear hM776
              have HB782 := hide (below_then HB754.out hb779)
              have HB783 := hide (below_then HB755.out hb779)
              have HB784 := hide (below_then HB756.out hb779)
              have HB785 := hide (below_then HB757.out hb779)
              have HB786 := hide (below_then HB758.out hb779)
              have HB787 := hide (below_then HB759.out hb779)
              have HB788 := hide (below_then HB760.out hb779)
              have HB789 := hide (below_then HB761.out hb779)
              clear hb779 HB754 HB755 HB756 HB757 HB758 HB759 HB760 HB761
              refine s_call hM780 (.inr ⟨_, _, _, rfl, rfl, rfl⟩) rfl rfl (f := 18) (args := #[.int .i64 ((formE false))]) (ev_call hM780 rfl rfl rfl (fun w => by simp [go_sem]) _) (law7_num _ _) (fun e w790 hp => ?_)
              obtain ⟨rfl, rfl⟩ := hp
              refine ⟨_, rfl, fun a793 hM792 => ?_⟩
              clear hM780
              refine s_val hM792 (.inr ⟨_, _, _, rfl, rfl, rfl⟩) rfl rfl (ev_bin rfl rfl rfl g_int (b_neq (b := false) (by decide))) (fun a795 hM794 => ?_)
              clear hM792
              refine s_val hM794 (.inl rfl) rfl rfl (ev_pick rfl rfl rfl) (fun a797 hM796 => ?_)
              clear hM794
              refine seg_nil (hK717 _ _ ?_)
              clear hK717 K717 QK717
              have hM798 := hM796.cut3 (t1 := 3) (t2 := 0) (t3 := 98) rfl rfl rfl
              clear hM796
              refine wp_cond_false (hM798.ev (t := 98) rfl) ?_
              refine wp_skip ?_
              have hM799 := hM798.cut2 (t1 := 3) (t2 := 0) rfl rfl
              clear hM798
              exact hN _ _ hM799 HB782
            case neg =>
              have H6 := hide h6
              clear h6
              refine region_then fun K800 QK800 hK800 => ?_
              refine s_val hM221 (.inl rfl) rfl rfl (ev_fldw (m := 0) rfl rfl (fun w => by simp [go_sem])) (fun a802 hM801 => ?_)
              clear hM221
              refine s_val hM801 (.inl rfl) rfl rfl (ev_fldw (m := 0) rfl rfl (fun w => by simp [go_sem])) (fun a804 hM803 => ?_)
              clear hM801
              refine s_val hM803 (.inl rfl) rfl rfl (ev_load1 (v := .int .i64 (x.k)) rfl rfl ((HRCg77.out.below HB202.out).at_ (m := 0) (by rw [HC.out]; rfl)) (isAgg_no Try.underlying3 rfl)) (fun a806 hM805 => ?_)
              clear hM803
              refine s_val hM805 (.inl rfl) rfl rfl (ev_bin rfl rfl rfl g_int (b_neq (b := true) (decide_eq_true H4.out))) (fun a808 hM807 => ?_)
              clear hM805
              refine s_val hM807 (.inl rfl) rfl rfl (ev_move (.inl rfl) rfl) (fun a810 hM809 => ?_)
              clear hM807
              refine s_val hM809 (.inr ⟨_, _, _, rfl, rfl, rfl⟩) rfl rfl (ev_fldw (m := 0) rfl rfl (fun w => by simp [go_sem])) (fun a812 hM811 => ?_)
              clear hM809
              refine s_val hM811 (.inr ⟨_, _, _, rfl, rfl, rfl⟩) rfl rfl (ev_fldw (m := 0) rfl rfl (fun w => by simp [go_sem])) (fun a814 hM813 => ?_)
              clear hM811
              refine s_val hM813 (.inr ⟨_, _, _, rfl, rfl, rfl⟩) rfl rfl (ev_load1 (v := .int .i64 (x.k)) rfl rfl ((HRCg77.out.below HB202.out).at_ (m := 0) (by rw [HC.out]; rfl)) (isAgg_no Try.underlying3 rfl)) (fun a816 hM815 => ?_)
              clear hM813
              refine s_val hM815 (.inr ⟨_, _, _, rfl, rfl, rfl⟩) rfl rfl (ev_bin rfl rfl rfl g_int (b_neq (b := true) (decide_eq_true H6.out))) (fun a818 hM817 => ?_)
              clear hM815
              refine s_val hM817 (.inl rfl) rfl rfl (ev_pick rfl rfl rfl) (fun a820 hM819 => ?_)
              clear hM817
              refine s_val hM819 (.inl rfl) rfl rfl (ev_move (.inr rfl) rfl) (fun a822 hM821 => ?_)
              clear hM819
              refine seg_nil (hK800 _ _ ?_)
              clear hK800 K800 QK800
              have hM823 := hM821.cut4 (t1 := 3) (t2 := 0) (t3 := 4) (t4 := 5) rfl rfl rfl rfl
              clear hM821
              refine wp_seq_k fun K824 hK824 => ?_
              refine region_then fun K825 QK825 hK825 => ?_
              refine s_val hM823 (.inl rfl) rfl rfl (ev_move (.inl rfl) rfl) (fun a827 hM826 => ?_)
              clear hM823
              refine s_val hM826 (.inl rfl) rfl rfl (ev_move (.inl rfl) rfl) (fun a829 hM828 => ?_)
              clear hM826
              refine s_val hM828 (.inr ⟨_, _, _, rfl, rfl, rfl⟩) rfl rfl (ev_fldw (m := 0) rfl rfl (fun w => by simp [go_sem])) (fun a831 hM830 => ?_)
              clear hM828
              refine s_val hM830 (.inr ⟨_, _, _, rfl, rfl, rfl⟩) rfl rfl (ev_loadm rfl rfl (HRCg77.out.below HB202.out) Try.underlying32 rfl (by rw [HC.out]; exact Try.infoMsg)) (fun a833 hM832 => ?_)
              clear hM830
              refine s_val hM832 (.inr ⟨_, _, _, rfl, rfl, rfl⟩) rfl rfl (ev_fldw (m := 18) rfl rfl (fun w => by simp [go_sem])) (fun a835 hM834 => ?_)
              clear hM832
              refine s_val hM834 (.inr ⟨_, _, _, rfl, rfl, rfl⟩) rfl rfl (ev_load1 (v := .int .i64 N) rfl rfl ((KB81.out.on HB202.out).rng.at_ (m := 18) (by rw [HPC.out]; rfl)) (isAgg_no Try.underlying3 rfl)) (fun a837 hM836 => ?_)
              clear hM834
              refine s_val hM836 (.inr ⟨_, _, _, rfl, rfl, rfl⟩) rfl rfl (ev_bin rfl rfl rfl g_int (b_add (r := (N + 3)) rfl (by have := HN.out; omega))) (fun a839 hM838 => ?_)
              clear hM836
              refine s_call hM838 (.inr ⟨_, _, _, rfl, rfl, rfl⟩) rfl rfl (f := 25) (args := #[.agg C, .int .i64 ((N + 3))]) (ev_call hM838 rfl rfl rfl (fun w => by simp [go_sem]) _) (message_Check (N + 3) x v _ (hide (HS.out.below HB201.out)) HZ HC (r := true) (mayM_more HM.out ⟨H4.out, H6.out⟩ (by have := H16.out; omega))) (fun e w840 hp => ?_)
              obtain ⟨rfl, hb841⟩ := hp
              refine ⟨_, rfl, fun a843 hM842 => ?_⟩
              clear hM838
              have HB844 := hide (below_then HB201.out hb841)
              have HB845 := hide (below_then HB202.out hb841)
              clear hb841 HB201 HB202
              refine s_call hM842 (.inr ⟨_, _, _, rfl, rfl, rfl⟩) rfl rfl (f := 18) (args := #[.int .i64 ((formE true))]) (ev_call hM842 rfl rfl rfl (fun w => by simp [go_sem]) _) (law7_num _ _) (fun e w846 hp => ?_)
              obtain ⟨rfl, rfl⟩ := hp
              refine ⟨_, rfl, fun a849 hM848 => ?_⟩
              clear hM842
              refine s_val hM848 (.inr ⟨_, _, _, rfl, rfl, rfl⟩) rfl rfl (ev_bin rfl rfl rfl g_int (b_neq (b := false) (by decide))) (fun a851 hM850 => ?_)
              clear hM848
              refine s_val hM850 (.inl rfl) rfl rfl (ev_pick rfl rfl rfl) (fun a853 hM852 => ?_)
              clear hM850
              refine seg_nil (hK825 _ _ ?_)
              clear hK825 K825 QK825
              have hM854 := hM852.cut4 (t1 := 3) (t2 := 0) (t3 := 4) (t4 := 59) rfl rfl rfl rfl
              clear hM852
              refine wp_cond_false (hM854.ev (t := 59) rfl) ?_
              refine wp_skip ?_
              refine hK824 _ _ ?_
              refine region_then fun K855 QK855 hK855 => ?_
              refine s_val hM854 (.inl rfl) rfl rfl (ev_fldw (m := 0) rfl rfl (fun w => by simp [go_sem])) (fun a857 hM856 => ?_)
              clear hM854
              refine s_val hM856 (.inl rfl) rfl rfl (ev_loadm rfl rfl (HRCg77.out.below HB845.out) Try.underlying32 rfl (by rw [HC.out]; exact Try.infoMsg)) (fun a859 hM858 => ?_)
              clear hM856
              refine s_call hM858 (.inl rfl) rfl rfl (f := 24) (args := #[.agg C]) (ev_call hM858 rfl rfl rfl (fun w => by simp [go_sem]) _) (copy_msg (hide (HS.out.below HB844.out)) HK HZ HC) (fun e w860 hp => ?_)
              obtain ⟨D1, u1, rfl, HD1, HSD1, HZD1, hb861⟩ := hp
              refine ⟨_, rfl, fun a863 hM862 => ?_⟩
              clear hM858
              have HB864 := hide (below_then HB844.out hb861)
              have HB865 := hide (below_then HB845.out hb861)
              clear hb861 HB844 HB845
              have HB867 : Hid (Below w860.heap.size w860 w860) := Below.refl _ _
              refine s_new hM862 rfl rfl rfl rfl alloc_msg rfl rfl rfl rfl (by rw [HD1.out]; exact Try.infoMsg) (by rw [HD1.out]; rfl) (one_msg HD1.out) (fun g868 a874 w869 hM873 KB872_ hb870 hg871 => ?_)
              have KB872 := hide KB872_
              clear hM862 KB872_
              have lo875 := hide (Nat.le_trans HB864.out.size hg871)
              have lo876 := hide (Nat.le_trans HB865.out.size hg871)
              have lo877 := hide (Nat.le_trans HB867.out.size hg871)
              clear hg871
              have HB878 := hide (below_then HB864.out hb870)
              have HB879 := hide (below_then HB865.out hb870)
              have HB880 := hide (below_then HB867.out hb870)
              clear hb870 HB864 HB865 HB867
              have HB882 : Hid (Below w869.heap.size w869 w869) := Below.refl _ _
              refine seg_nil (hK855 _ _ ?_)
              clear hK855 K855 QK855
              have hM883 := hM873.cut4 (t1 := 3) (t2 := 0) (t3 := 4) (t4 := 6) rfl rfl rfl rfl
              clear hM873
              refine region_then fun K884 QK884 hK884 => ?_
              refine s_val hM883 (.inl rfl) rfl rfl (ev_fldw (m := 18) rfl rfl (fun w => by simp [go_sem])) (fun a886 hM885 => ?_)
              clear hM883
              refine s_val hM885 (.inl rfl) rfl rfl (ev_load1 (v := .int .i64 N) rfl rfl ((KB81.out.on HB879.out).rng.at_ (m := 18) (by rw [HPC.out]; rfl)) (isAgg_no Try.underlying3 rfl)) (fun a888 hM887 => ?_)
              clear hM885
              refine s_val hM887 (.inl rfl) rfl rfl (ev_bin rfl rfl rfl g_int (b_add (r := (N + 1)) rfl (by have := HN.out; omega))) (fun a890 hM889 => ?_)
              clear hM887
              refine s_val hM889 (.inl rfl) rfl rfl (ev_fldw (m := 2) rfl rfl (fun w => by simp [go_sem])) (fun a892 hM891 => ?_)
              clear hM889
              refine s_put hM891 rfl rfl rfl rfl rfl (KB872.out.on HB882.out) (by rw [HD1.out]; exact (by decide : 2 < 18)) (st_int Try.underlying3 (by kernel_rfl)) (fun w893 KB894_ hg895 => ?_)
              obtain ⟨E1, HE1⟩ : ∃ E : Array Value, Hid (E = msC { x with k := x.k, t := N + 1 } u1) := ⟨_, rfl⟩
              have KB894 : Hid (Blk w893 g868 32 E1) := by have h := KB894_; rw [HD1.out] at h; rw [HE1.out]; exact h
              clear KB894_
              have HB896 := hide (below_of_grown HB878.out hg895 HB878.out.size lo875.out)
              have HB897 := hide (below_of_grown HB879.out hg895 HB879.out.size lo876.out)
              have HB898 := hide (below_of_grown HB880.out hg895 HB880.out.size lo877.out)
              clear HB878 HB879 HB880 HB882 hg895
              have HB900 : Hid (Below w893.heap.size w893 w893) := Below.refl _ _
              refine seg_nil (hK884 _ _ ?_)
              clear hK884 K884 QK884
              have hM901 := hM891.cut4 (t1 := 3) (t2 := 0) (t3 := 4) (t4 := 6) rfl rfl rfl rfl
              clear hM891
              refine region_then fun K902 QK902 hK902 => ?_
              refine s_val hM901 (.inl rfl) rfl rfl (ev_fldw (m := 0) rfl rfl (fun w => by simp [go_sem])) (fun a904 hM903 => ?_)
              clear hM901
              refine s_val hM903 (.inl rfl) rfl rfl (ev_loadm rfl rfl (HRCg77.out.below HB897.out) Try.underlying32 rfl (by rw [HC.out]; exact Try.infoMsg)) (fun a906 hM905 => ?_)
              clear hM903
              refine s_call hM905 (.inl rfl) rfl rfl (f := 24) (args := #[.agg C]) (ev_call hM905 rfl rfl rfl (fun w => by simp [go_sem]) _) (copy_msg (hide (HS.out.below HB896.out)) HK HZ HC) (fun e w907 hp => ?_)
              obtain ⟨D2, u2, rfl, HD2, HSD2, HZD2, hb908⟩ := hp
              refine ⟨_, rfl, fun a910 hM909 => ?_⟩
              clear hM905
              have HB911 := hide (below_then HB896.out hb908)
              have HB912 := hide (below_then HB897.out hb908)
              have HB913 := hide (below_then HB898.out hb908)
              have HB914 := hide (below_then HB900.out hb908)
              clear hb908 HB896 HB897 HB898 HB900
              have HB916 : Hid (Below w907.heap.size w907 w907) := Below.refl _ _
              refine s_new hM909 rfl rfl rfl rfl alloc_msg rfl rfl rfl rfl (by rw [HD2.out]; exact Try.infoMsg) (by rw [HD2.out]; rfl) (one_msg HD2.out) (fun g917 a923 w918 hM922 KB921_ hb919 hg920 => ?_)
              have KB921 := hide KB921_
              clear hM909 KB921_
              have lo924 := hide (Nat.le_trans HB911.out.size hg920)
              have lo925 := hide (Nat.le_trans HB912.out.size hg920)
              have lo926 := hide (Nat.le_trans HB913.out.size hg920)
              have lo927 := hide (Nat.le_trans HB914.out.size hg920)
              have lo928 := hide (Nat.le_trans HB916.out.size hg920)
              clear hg920
              have HB929 := hide (below_then HB911.out hb919)
              have HB930 := hide (below_then HB912.out hb919)
              have HB931 := hide (below_then HB913.out hb919)
              have HB932 := hide (below_then HB914.out hb919)
              have HB933 := hide (below_then HB916.out hb919)
              clear hb919 HB911 HB912 HB913 HB914 HB916
              have HB935 : Hid (Below w918.heap.size w918 w918) := Below.refl _ _
              refine seg_nil (hK902 _ _ ?_)
              clear hK902 K902 QK902
              have hM936 := hM922.cut5 (t1 := 3) (t2 := 0) (t3 := 4) (t4 := 6) (t5 := 7) rfl rfl rfl rfl rfl
              clear hM922
              refine region_then fun K937 QK937 hK937 => ?_
              refine s_val hM936 (.inl rfl) rfl rfl (ev_fldw (m := 1) rfl rfl (fun w => by simp [go_sem])) (fun a939 hM938 => ?_)
              clear hM936
              refine s_val hM938 (.inl rfl) rfl rfl (ev_load1 (v := .int .i64 (x.f)) rfl rfl ((KB921.out.on HB935.out).rng.at_ (m := 1) (by rw [HD2.out]; rfl)) (isAgg_no Try.underlying3 rfl)) (fun a941 hM940 => ?_)
              clear hM938
              refine s_val hM940 (.inl rfl) rfl rfl (ev_fldw (m := 2) rfl rfl (fun w => by simp [go_sem])) (fun a943 hM942 => ?_)
              clear hM940
              refine s_put hM942 rfl rfl rfl rfl rfl (KB921.out.on HB935.out) (by rw [HD2.out]; exact (by decide : 2 < 18)) (st_int Try.underlying3 (by kernel_rfl)) (fun w944 KB945_ hg946 => ?_)
              obtain ⟨E2, HE2⟩ : ∃ E : Array Value, Hid (E = msC { x with k := x.k, t := x.f } u2) := ⟨_, rfl⟩
              have KB945 : Hid (Blk w944 g917 32 E2) := by have h := KB945_; rw [HD2.out] at h; rw [HE2.out]; exact h
              clear KB945_
              have HB947 := hide (below_of_grown HB929.out hg946 HB929.out.size lo924.out)
              have HB948 := hide (below_of_grown HB930.out hg946 HB930.out.size lo925.out)
              have HB949 := hide (below_of_grown HB931.out hg946 HB931.out.size lo926.out)
              have HB950 := hide (below_of_grown HB932.out hg946 HB932.out.size lo927.out)
              have HB951 := hide (below_of_grown HB933.out hg946 HB933.out.size lo928.out)
              clear HB929 HB930 HB931 HB932 HB933 HB935 hg946
              have HB953 : Hid (Below w944.heap.size w944 w944) := Below.refl _ _
              refine seg_nil (hK937 _ _ ?_)
              clear hK937 K937 QK937
              have hM954 := hM942.cut5 (t1 := 3) (t2 := 0) (t3 := 4) (t4 := 6) (t5 := 7) rfl rfl rfl rfl rfl
              clear hM942
              refine region_then fun K955 QK955 hK955 => ?_
              refine s_val hM954 (.inl rfl) rfl rfl (ev_fldw (m := 0) rfl rfl (fun w => by simp [go_sem])) (fun a957 hM956 => ?_)
              clear hM954
              refine s_val hM956 (.inl rfl) rfl rfl (ev_loadm rfl rfl (HRCg77.out.below HB948.out) Try.underlying32 rfl (by rw [HC.out]; exact Try.infoMsg)) (fun a959 hM958 => ?_)
              clear hM956
              refine s_call hM958 (.inl rfl) rfl rfl (f := 24) (args := #[.agg C]) (ev_call hM958 rfl rfl rfl (fun w => by simp [go_sem]) _) (copy_msg (hide (HS.out.below HB947.out)) HK HZ HC) (fun e w960 hp => ?_)
              obtain ⟨D3, u3, rfl, HD3, HSD3, HZD3, hb961⟩ := hp
              refine ⟨_, rfl, fun a963 hM962 => ?_⟩
              clear hM958
              have HB964 := hide (below_then HB947.out hb961)
              have HB965 := hide (below_then HB948.out hb961)
              have HB966 := hide (below_then HB949.out hb961)
              have HB967 := hide (below_then HB950.out hb961)
              have HB968 := hide (below_then HB951.out hb961)
              have HB969 := hide (below_then HB953.out hb961)
              clear hb961 HB947 HB948 HB949 HB950 HB951 HB953
              have HB971 : Hid (Below w960.heap.size w960 w960) := Below.refl _ _
              refine s_new hM962 rfl rfl rfl rfl alloc_msg rfl rfl rfl rfl (by rw [HD3.out]; exact Try.infoMsg) (by rw [HD3.out]; rfl) (one_msg HD3.out) (fun g972 a978 w973 hM977 KB976_ hb974 hg975 => ?_)
              have KB976 := hide KB976_
              clear hM962 KB976_
              have lo979 := hide (Nat.le_trans HB964.out.size hg975)
              have lo980 := hide (Nat.le_trans HB965.out.size hg975)
              have lo981 := hide (Nat.le_trans HB966.out.size hg975)
              have lo982 := hide (Nat.le_trans HB967.out.size hg975)
              have lo983 := hide (Nat.le_trans HB968.out.size hg975)
              have lo984 := hide (Nat.le_trans HB969.out.size hg975)
              have lo985 := hide (Nat.le_trans HB971.out.size hg975)
              clear hg975
              have HB986 := hide (below_then HB964.out hb974)
              have HB987 := hide (below_then HB965.out hb974)
              have HB988 := hide (below_then HB966.out hb974)
              have HB989 := hide (below_then HB967.out hb974)
              have HB990 := hide (below_then HB968.out hb974)
              have HB991 := hide (below_then HB969.out hb974)
              have HB992 := hide (below_then HB971.out hb974)
              clear hb974 HB964 HB965 HB966 HB967 HB968 HB969 HB971
              have HB994 : Hid (Below w973.heap.size w973 w973) := Below.refl _ _
              refine seg_nil (hK955 _ _ ?_)
              clear hK955 K955 QK955
              have hM995 := hM977.cut6 (t1 := 3) (t2 := 0) (t3 := 4) (t4 := 6) (t5 := 7) (t6 := 8) rfl rfl rfl rfl rfl rfl
              clear hM977
              refine region_then fun K996 QK996 hK996 => ?_
              refine s_val hM995 (.inl rfl) rfl rfl (ev_fldw (m := 0) rfl rfl (fun w => by simp [go_sem])) (fun a998 hM997 => ?_)
              clear hM995
              refine s_put hM997 rfl rfl rfl rfl rfl (KB976.out.on HB994.out) (by rw [HD3.out]; exact (by decide : 0 < 18)) (st_int Try.underlying3 (by kernel_rfl)) (fun w999 KB1000_ hg1001 => ?_)
              obtain ⟨E3, HE3⟩ : ∃ E : Array Value, Hid (E = msC { x with k := 9, t := x.t } u3) := ⟨_, rfl⟩
              have KB1000 : Hid (Blk w999 g972 32 E3) := by have h := KB1000_; rw [HD3.out] at h; rw [HE3.out]; exact h
              clear KB1000_
              have HB1002 := hide (below_of_grown HB986.out hg1001 HB986.out.size lo979.out)
              have HB1003 := hide (below_of_grown HB987.out hg1001 HB987.out.size lo980.out)
              have HB1004 := hide (below_of_grown HB988.out hg1001 HB988.out.size lo981.out)
              have HB1005 := hide (below_of_grown HB989.out hg1001 HB989.out.size lo982.out)
              have HB1006 := hide (below_of_grown HB990.out hg1001 HB990.out.size lo983.out)
              have HB1007 := hide (below_of_grown HB991.out hg1001 HB991.out.size lo984.out)
              have HB1008 := hide (below_of_grown HB992.out hg1001 HB992.out.size lo985.out)
              clear HB986 HB987 HB988 HB989 HB990 HB991 HB992 HB994 hg1001
              have HB1010 : Hid (Below w999.heap.size w999 w999) := Below.refl _ _
              refine seg_nil (hK996 _ _ ?_)
              clear hK996 K996 QK996
              have hM1011 := hM997.cut6 (t1 := 3) (t2 := 0) (t3 := 4) (t4 := 6) (t5 := 7) (t6 := 8) rfl rfl rfl rfl rfl rfl
              clear hM997
              refine region_then fun K1012 QK1012 hK1012 => ?_
              refine s_val hM1011 (.inl rfl) rfl rfl (ev_loadm rfl rfl (KB894.out.on HB1005.out).rng Try.underlying32 rfl (by rw [HE1.out]; exact Try.infoMsg)) (fun a1014 hM1013 => ?_)
              clear hM1011
              refine s_val hM1013 (.inl rfl) rfl rfl (ev_fldw (m := 18) rfl rfl (fun w => by simp [go_sem])) (fun a1016 hM1015 => ?_)
              clear hM1013
              refine s_val hM1015 (.inl rfl) rfl rfl (ev_load1 (v := .int .i64 N) rfl rfl ((KB81.out.on HB1003.out).rng.at_ (m := 18) (by rw [HPC.out]; rfl)) (isAgg_no Try.underlying3 rfl)) (fun a1018 hM1017 => ?_)
              clear hM1015
              refine s_call hM1017 (.inl rfl) rfl rfl (f := 25) (args := #[.agg E1, .int .i64 N]) (ev_call hM1017 rfl rfl rfl (fun w => by simp [go_sem]) _) (message_Check N { x with k := x.k, t := N + 1 } u1 _ (hide ((HSD1.out.below HB1004.out).to (x.k) (N + 1))) (hide (HZD1.out.1.to (x.k) (N + 1))) HE1 (r := false) (mayM_to (Or.inl rfl))) (fun e w1019 hp => ?_)
              obtain ⟨rfl, hb1020⟩ := hp
              refine ⟨_, rfl, fun a1022 hM1021 => ?_⟩
              clear hM1017
              have HB1023 := hide (below_then HB1002.out hb1020)
              have HB1024 := hide (below_then HB1003.out hb1020)
              have HB1025 := hide (below_then HB1004.out hb1020)
              have HB1026 := hide (below_then HB1005.out hb1020)
              have HB1027 := hide (below_then HB1006.out hb1020)
              have HB1028 := hide (below_then HB1007.out hb1020)
              have HB1029 := hide (below_then HB1008.out hb1020)
              have HB1030 := hide (below_then HB1010.out hb1020)
              clear hb1020 HB1002 HB1003 HB1004 HB1005 HB1006 HB1007 HB1008 HB1010
              refine s_call hM1021 (.inl rfl) rfl rfl (f := 18) (args := #[.int .i64 ((formE false))]) (ev_call hM1021 rfl rfl rfl (fun w => by simp [go_sem]) _) (law7_num _ _) (fun e w1031 hp => ?_)
              obtain ⟨rfl, rfl⟩ := hp
              refine ⟨_, rfl, fun a1034 hM1033 => ?_⟩
              clear hM1021
              refine s_val hM1033 (.inl rfl) rfl rfl (ev_bin rfl rfl rfl g_int (b_neq (b := false) (by decide))) (fun a1036 hM1035 => ?_)
              clear hM1033
              refine s_val hM1035 (.inl rfl) rfl rfl (ev_move (.inl rfl) rfl) (fun a1038 hM1037 => ?_)
              clear hM1035
              refine s_val hM1037 (.inr ⟨_, _, _, rfl, rfl, rfl⟩) rfl rfl (ev_loadm rfl rfl (KB945.out.on HB1028.out).rng Try.underlying32 rfl (by rw [HE2.out]; exact Try.infoMsg)) (fun a1040 hM1039 => ?_)
              clear hM1037
              refine s_val hM1039 (.inr ⟨_, _, _, rfl, rfl, rfl⟩) rfl rfl (ev_fldw (m := 18) rfl rfl (fun w => by simp [go_sem])) (fun a1042 hM1041 => ?_)
              clear hM1039
              refine s_val hM1041 (.inr ⟨_, _, _, rfl, rfl, rfl⟩) rfl rfl (ev_load1 (v := .int .i64 N) rfl rfl ((KB81.out.on HB1024.out).rng.at_ (m := 18) (by rw [HPC.out]; rfl)) (isAgg_no Try.underlying3 rfl)) (fun a1044 hM1043 => ?_)
              clear hM1041
              refine s_call hM1043 (.inr ⟨_, _, _, rfl, rfl, rfl⟩) rfl rfl (f := 25) (args := #[.agg E2, .int .i64 N]) (ev_call hM1043 rfl rfl rfl (fun w => by simp [go_sem]) _) (message_Check N { x with k := x.k, t := x.f } u2 _ (hide ((HSD2.out.below HB1027.out).to (x.k) (x.f))) (hide (HZD2.out.1.to (x.k) (x.f))) HE2 (r := false) (mayM_to (Or.inr rfl))) (fun e w1045 hp => ?_)
              obtain ⟨rfl, hb1046⟩ := hp
              refine ⟨_, rfl, fun a1048 hM1047 => ?_⟩
              clear hM1043
              have HB1049 := hide (below_then HB1023.out hb1046)
              have HB1050 := hide (below_then HB1024.out hb1046)
              have HB1051 := hide (below_then HB1025.out hb1046)
              have HB1052 := hide (below_then HB1026.out hb1046)
              have HB1053 := hide (below_then HB1027.out hb1046)
              have HB1054 := hide (below_then HB1028.out hb1046)
              have HB1055 := hide (below_then HB1029.out hb1046)
              have HB1056 := hide (below_then HB1030.out hb1046)
              clear hb1046 HB1023 HB1024 HB1025 HB1026 HB1027 HB1028 HB1029 HB1030
              refine s_call hM1047 (.inr ⟨_, _, _, rfl, rfl, rfl⟩) rfl rfl (f := 18) (args := #[.int .i64 ((formE false))]) (ev_call hM1047 rfl rfl rfl (fun w => by simp [go_sem]) _) (law7_num _ _) (fun e w1057 hp => ?_)
              obtain ⟨rfl, rfl⟩ := hp
              refine ⟨_, rfl, fun a1060 hM1059 => ?_⟩
              clear hM1047
              refine s_val hM1059 (.inr ⟨_, _, _, rfl, rfl, rfl⟩) rfl rfl (ev_bin rfl rfl rfl g_int (b_neq (b := false) (by decide))) (fun a1062 hM1061 => ?_)
              clear hM1059
              refine s_val hM1061 (.inl rfl) rfl rfl (ev_pick rfl rfl rfl) (fun a1064 hM1063 => ?_)
              clear hM1061
              refine s_val hM1063 (.inl rfl) rfl rfl (ev_move (.inl rfl) rfl) (fun a1066 hM1065 => ?_)
              clear hM1063
              refine s_val hM1065 (.inr ⟨_, _, _, rfl, rfl, rfl⟩) rfl rfl (ev_loadm rfl rfl (KB1000.out.on HB1056.out).rng Try.underlying32 rfl (by rw [HE3.out]; exact Try.infoMsg)) (fun a1068 hM1067 => ?_)
              clear hM1065
              refine s_val hM1067 (.inr ⟨_, _, _, rfl, rfl, rfl⟩) rfl rfl (ev_fldw (m := 18) rfl rfl (fun w => by simp [go_sem])) (fun a1070 hM1069 => ?_)
              clear hM1067
              refine s_val hM1069 (.inr ⟨_, _, _, rfl, rfl, rfl⟩) rfl rfl (ev_load1 (v := .int .i64 N) rfl rfl ((KB81.out.on HB1050.out).rng.at_ (m := 18) (by rw [HPC.out]; rfl)) (isAgg_no Try.underlying3 rfl)) (fun a1072 hM1071 => ?_)
              clear hM1069
              refine s_call hM1071 (.inr ⟨_, _, _, rfl, rfl, rfl⟩) rfl rfl (f := 25) (args := #[.agg E3, .int .i64 N]) (ev_call hM1071 rfl rfl rfl (fun w => by simp [go_sem]) _) (message_Check N { x with k := 9, t := x.t } u3 _ (hide ((HSD3.out.below HB1055.out).to (9) (x.t))) (hide (HZD3.out.1.to (9) (x.t))) HE3 (r := false) mayM_nine) (fun e w1073 hp => ?_)
              obtain ⟨rfl, hb1074⟩ := hp
              refine ⟨_, rfl, fun a1076 hM1075 => ?_⟩
              clear hM1071
              have HB1077 := hide (below_then HB1049.out hb1074)
              have HB1078 := hide (below_then HB1050.out hb1074)
              have HB1079 := hide (below_then HB1051.out hb1074)
              have HB1080 := hide (below_then HB1052.out hb1074)
              have HB1081 := hide (below_then HB1053.out hb1074)
              have HB1082 := hide (below_then HB1054.out hb1074)
              have HB1083 := hide (below_then HB1055.out hb1074)
              have HB1084 := hide (below_then HB1056.out hb1074)
              clear hb1074 HB1049 HB1050 HB1051 HB1052 HB1053 HB1054 HB1055 HB1056
              refine s_call hM1075 (.inr ⟨_, _, _, rfl, rfl, rfl⟩) rfl rfl (f := 18) (args := #[.int .i64 ((formE false))]) (ev_call hM1075 rfl rfl rfl (fun w => by simp [go_sem]) _) (law7_num _ _) (fun e w1085 hp => ?_)
              obtain ⟨rfl, rfl⟩ := hp
              refine ⟨_, rfl, fun a1088 hM1087 => ?_⟩
              clear hM1075
              refine s_val hM1087 (.inr ⟨_, _, _, rfl, rfl, rfl⟩) rfl rfl (ev_bin rfl rfl rfl g_int (b_neq (b := false) (by decide))) (fun a1090 hM1089 => ?_)
              clear hM1087
              refine s_val hM1089 (.inl rfl) rfl rfl (ev_pick rfl rfl rfl) (fun a1092 hM1091 => ?_)
              clear hM1089
              refine seg_nil (hK1012 _ _ ?_)
              clear hK1012 K1012 QK1012
              have hM1093 := hM1091.cut3 (t1 := 3) (t2 := 0) (t3 := 98) rfl rfl rfl
              clear hM1091
              refine wp_cond_false (hM1093.ev (t := 98) rfl) ?_
              refine wp_skip ?_
              have hM1094 := hM1093.cut2 (t1 := 3) (t2 := 0) rfl rfl
              clear hM1093
              exact hN _ _ hM1094 HB1077
  · intro a w1 Q hM HB0 hk
    refine region_last fun K1095 QK1095 hK1095 => ?_
    refine s_call hM (.inl rfl) rfl rfl (f := 22) (args := #[]) (ev_call hM rfl rfl rfl (fun w => by simp [go_sem]) _) (law7_wakes _) (fun e w1096 hp => ?_)
    obtain ⟨rfl, hb1097⟩ := hp
    refine ⟨_, rfl, fun a1099 hM1098 => ?_⟩
    clear hM
    have HB1100 := hide (below_then HB0.out hb1097)
    clear hb1097 HB0
    refine s_val hM1098 (.inl rfl) rfl rfl (ev_move (.inr rfl) rfl) (fun a1102 hM1101 => ?_)
    clear hM1098
    refine seg_nil (hK1095 _ _ ?_)
    clear hK1095 K1095 QK1095
    have hM1103 := hM1101.cut1 (t1 := 2) rfl
    clear hM1101
    exact hk _ _ hM1103 HB1100
  · intro a w1 hM HB
    refine bodyPost_ret (results_tmp rfl _ _ _) hM.2.1 ?_
    rw [show a.tmps.getD 2 undef = .bool true from hM.ev (t := 2) rfl]
    exact ⟨rfl, HB.out⟩
end Go.Proofs.Ytmnogefpphonlaa
