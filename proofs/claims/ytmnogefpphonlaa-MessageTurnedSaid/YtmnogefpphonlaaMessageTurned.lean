/-
  The walk of MessageTurned: whatever the list of records, the call answers true and changes nothing that was there.
-/
import Derived.Test.YtmnogefpphonlaaGr29
import Derived.Test.YtmnogefpphonlaaSegH
import Derived.Test.YtmnogefpphonlaaBatR
set_option linter.unusedVariables false
set_option linter.unusedSimpArgs false
namespace Go.Proofs.Ytmnogefpphonlaa
open Go.RowKit
set_option maxRecDepth 100000 in
set_option maxHeartbeats 4000000 in
theorem walk_MessageTurned {v : Value} {w : World} (ho : ∃ A n c, v = .slice A n c ∧ Asks7 w A n) :
    Calls Try.prog 4 #[v] w fun r w' => r = .returned (.bool true) ∧ Below w.heap.size w w' := by
  obtain ⟨A, n, c, rfl, hn, h⟩ := ho
  have HH := hide h
  clear h
  go_enter Try.func4, Try.ntmps4
  refine law_shape (NS := 110) (t := 20) (si := 3) (sr := 2) (n := n) (M0 := [(0, .slice A n c)]) (Frm.start rfl (by intro p hp; simp only [List.mem_cons, List.not_mem_nil, or_false] at hp; subst hp; rfl)) ?_ ?_ ?_ ?_ ?_ ?_ ?_ rfl
  · intro a w Q hM hk
    refine region_last fun K1 QK1 hK1 => ?_
    refine s_val hM (.inl rfl) rfl rfl (ev_move (.inr rfl) rfl) (fun a3 hM2 => ?_)
    clear hM
    refine seg_nil (hK1 _ _ ?_)
    clear hK1 K1 QK1
    have hM4 := hM2.cut1 (t1 := 0) rfl
    clear hM2
    exact hk _ hM4
  · intro a w Q hM hk
    refine region_last fun K5 QK5 hK5 => ?_
    refine s_val hM (.inl rfl) rfl rfl (ev_move (.inr rfl) rfl) (fun a7 hM6 => ?_)
    clear hM
    refine seg_nil (hK5 _ _ ?_)
    clear hK5 K5 QK5
    have hM8 := hM6.cut2 (t1 := 3) (t2 := 0) rfl rfl
    clear hM6
    exact hk _ hM8
  · intro k a w Q hM hk
    have hd1 : decide ((k : Int) < (n : Int)) = decide (k < n) := by rw [decide_eq_decide]; omega
    have hd2 : decide ((k : Int) < 8) = decide (k < 8) := by rw [decide_eq_decide]; omega
    cases e1 : decide (k < n)
    case false =>
      rw [e1] at hd1 hk
      refine region_last fun K9 QK9 hK9 => ?_
      refine s_val hM (.inl rfl) rfl rfl (ev_move (.inl rfl) rfl) (fun a11 hM10 => ?_)
      clear hM
      refine s_val hM10 (.inl rfl) rfl rfl (ev_move (.inl rfl) rfl) (fun a13 hM12 => ?_)
      clear hM10
      refine s_val hM12 (.inl rfl) rfl rfl (ev_len rfl rfl Try.underlying22) (fun a15 hM14 => ?_)
      clear hM12
      refine s_val hM14 (.inl rfl) rfl rfl (ev_bin rfl rfl rfl g_int (b_lss (b := false) hd1)) (fun a17 hM16 => ?_)
      clear hM14
      refine s_val hM16 (.inl rfl) rfl rfl (ev_move (.inl rfl) rfl) (fun a19 hM18 => ?_)
      clear hM16
      refine s_skip hM18 rfl rfl rfl rfl rfl rfl (fun a21 hM20 => ?_)
      clear hM18
      refine s_skip hM20 rfl rfl rfl rfl rfl rfl (fun a23 hM22 => ?_)
      clear hM20
      refine s_val hM22 (.inl rfl) rfl rfl (ev_pick rfl rfl rfl) (fun a25 hM24 => ?_)
      clear hM22
      refine seg_nil (hK9 _ _ ?_)
      clear hK9 K9 QK9
      exact hk _ (hM24.cut2 (t1 := 3) (t2 := 0) rfl rfl) (hM24.ev (t := 20) rfl)
    case true =>
      rw [e1] at hd1 hk
      cases e2 : decide (k < 8)
      case false =>
        rw [e2] at hd2 hk
        refine region_last fun K26 QK26 hK26 => ?_
        refine s_val hM (.inl rfl) rfl rfl (ev_move (.inl rfl) rfl) (fun a28 hM27 => ?_)
        clear hM
        refine s_val hM27 (.inl rfl) rfl rfl (ev_move (.inl rfl) rfl) (fun a30 hM29 => ?_)
        clear hM27
        refine s_val hM29 (.inl rfl) rfl rfl (ev_len rfl rfl Try.underlying22) (fun a32 hM31 => ?_)
        clear hM29
        refine s_val hM31 (.inl rfl) rfl rfl (ev_bin rfl rfl rfl g_int (b_lss (b := true) hd1)) (fun a34 hM33 => ?_)
        clear hM31
        refine s_val hM33 (.inl rfl) rfl rfl (ev_move (.inl rfl) rfl) (fun a36 hM35 => ?_)
        clear hM33
        refine s_val hM35 (.inr ⟨_, _, _, rfl, rfl, rfl⟩) rfl rfl (ev_move (.inl rfl) rfl) (fun a38 hM37 => ?_)
        clear hM35
        refine s_val hM37 (.inr ⟨_, _, _, rfl, rfl, rfl⟩) rfl rfl (ev_bin rfl rfl rfl g_int (b_lss (b := false) hd2)) (fun a40 hM39 => ?_)
        clear hM37
        refine s_val hM39 (.inl rfl) rfl rfl (ev_pick rfl rfl rfl) (fun a42 hM41 => ?_)
        clear hM39
        refine seg_nil (hK26 _ _ ?_)
        clear hK26 K26 QK26
        exact hk _ (hM41.cut2 (t1 := 3) (t2 := 0) rfl rfl) (hM41.ev (t := 20) rfl)
      case true =>
        rw [e2] at hd2 hk
        refine region_last fun K43 QK43 hK43 => ?_
        refine s_val hM (.inl rfl) rfl rfl (ev_move (.inl rfl) rfl) (fun a45 hM44 => ?_)
        clear hM
        refine s_val hM44 (.inl rfl) rfl rfl (ev_move (.inl rfl) rfl) (fun a47 hM46 => ?_)
        clear hM44
        refine s_val hM46 (.inl rfl) rfl rfl (ev_len rfl rfl Try.underlying22) (fun a49 hM48 => ?_)
        clear hM46
        refine s_val hM48 (.inl rfl) rfl rfl (ev_bin rfl rfl rfl g_int (b_lss (b := true) hd1)) (fun a51 hM50 => ?_)
        clear hM48
        refine s_val hM50 (.inl rfl) rfl rfl (ev_move (.inl rfl) rfl) (fun a53 hM52 => ?_)
        clear hM50
        refine s_val hM52 (.inr ⟨_, _, _, rfl, rfl, rfl⟩) rfl rfl (ev_move (.inl rfl) rfl) (fun a55 hM54 => ?_)
        clear hM52
        refine s_val hM54 (.inr ⟨_, _, _, rfl, rfl, rfl⟩) rfl rfl (ev_bin rfl rfl rfl g_int (b_lss (b := true) hd2)) (fun a57 hM56 => ?_)
        clear hM54
        refine s_val hM56 (.inl rfl) rfl rfl (ev_pick rfl rfl rfl) (fun a59 hM58 => ?_)
        clear hM56
        refine seg_nil (hK43 _ _ ?_)
        clear hK43 K43 QK43
        exact hk _ (hM58.cut2 (t1 := 3) (t2 := 0) rfl rfl) (hM58.ev (t := 20) rfl)
  · intro k a w Q hk8 hM hk
    refine region_last fun K60 QK60 hK60 => ?_
    refine s_val hM (.inl rfl) rfl rfl (ev_move (.inl rfl) rfl) (fun a62 hM61 => ?_)
    clear hM
    refine s_val hM61 (.inl rfl) rfl rfl (ev_bin rfl rfl rfl g_int (b_add (r := ((k + 1 : Nat) : Int)) (by omega) (by omega))) (fun a64 hM63 => ?_)
    clear hM61
    refine s_val hM63 (.inl rfl) rfl rfl (ev_move (.inr rfl) rfl) (fun a66 hM65 => ?_)
    clear hM63
    refine seg_nil (hK60 _ _ ?_)
    clear hK60 K60 QK60
    have hM67 := hM65.cut2 (t1 := 3) (t2 := 0) rfl rfl
    clear hM65
    exact hk _ hM67
  · intro k a w1 Q hlt h8 hM HB0 hN hE hR
    obtain ⟨b, off, rfl, hc⟩ := HH.out (by omega)
    obtain ⟨x, v, N, A4, n4, c4, bs, C0, C1, C2, S1, L1, S4, hc4, hm4⟩ := hc k hlt
    obtain ⟨C, HC⟩ : ∃ C : Array Value, Hid (C = msC x v) := ⟨_, rfl⟩
    obtain ⟨PC, HPC⟩ : ∃ C : Array Value, Hid (C = askC x v N (.slice A4 n4 c4)) := ⟨_, rfl⟩
    obtain ⟨ZM, HZM⟩ : ∃ C : Array Value, Hid (C = msC zM zV) := ⟨_, rfl⟩
    obtain ⟨R1, R2⟩ := ask_rng HC.out HPC.out C0 C1 C2
    have HR1 := hide R1
    have HR2 := hide R2
    have HS := hide S1
    have HL := hide L1
    have HZ := hide (MsL.z L1)
    have HX := hide S4
    have HXL := hide S4.blen
    have HX4 := hide (And.intro hc4 hm4)
    clear R1 R2 C0 C1 C2 S1 L1 S4 hc hc4 hm4
    refine region_then fun K68 QK68 hK68 => ?_
    refine s_val hM (.inl rfl) rfl rfl (ev_move (.inl rfl) rfl) (fun a70 hM69 => ?_)
    clear hM
    refine s_val hM69 (.inl rfl) rfl rfl (ev_move (.inl rfl) rfl) (fun a72 hM71 => ?_)
    clear hM69
    refine s_val hM71 (.inl rfl) rfl rfl (ev_idx (b := b) (k := k) (sz := 20) (p := off + k * 20) rfl rfl rfl Try.underlying22 (by kernel_rfl) hlt (by first | rfl | omega)) (fun a74 hM73 => ?_)
    clear hM71
    refine s_val hM73 (.inl rfl) rfl rfl (ev_loadm rfl rfl (HR1.out.below HB0.out) Try.underlying35 rfl (by rw [HPC.out]; exact info_ask)) (fun a76 hM75 => ?_)
    clear hM73
    refine s_new hM75 rfl rfl rfl rfl alloc_ask rfl rfl rfl rfl (by rw [HPC.out]; exact info_ask) (by rw [HPC.out]; rfl) (one_ask HPC.out) (fun g77 a83 w78 hM82 KB81_ hb79 hg80 => ?_)
    have KB81 := hide KB81_
    clear hM75 KB81_
    clear hg80
    have HB84 := hide (below_then HB0.out hb79)
    clear hb79 HB0
    have HB86 : Hid (Below w78.heap.size w78 w78) := Below.refl _ _
    have HRCg77 : Hid (Rng w78 g77 0 C) := ((KB81.out).rng).sub 0 (ask_sub HC.out HPC.out)
    refine seg_nil (hK68 _ _ ?_)
    clear hK68 K68 QK68
    have hM87 := hM82.cut3 (t1 := 3) (t2 := 0) (t3 := 4) rfl rfl rfl
    clear hM82
    refine wp_seq_k fun K88 hK88 => ?_
    obtain ⟨q0, HV⟩ : ∃ q, Hid (decide (2000 < msW x v) = q) := ⟨_, rfl⟩
    cases q0
    case true =>
      refine region_then fun K89 QK89 hK89 => ?_
      refine s_val hM87 (.inl rfl) rfl rfl (ev_fldw (m := 0) rfl rfl (fun w => by simp [go_sem])) (fun a91 hM90 => ?_)
      clear hM87
      refine s_val hM90 (.inl rfl) rfl rfl (ev_loadm rfl rfl (HRCg77.out.below HB86.out) Try.underlying32 rfl (by rw [HC.out]; exact Try.infoMsg)) (fun a93 hM92 => ?_)
      clear hM90
      refine s_call hM92 (.inl rfl) rfl rfl (f := 23) (args := #[.agg C]) (ev_call hM92 rfl rfl rfl (fun w => by simp [go_sem]) _) (law7_Heavy x v _ (hide (HS.out.below HB84.out)) HL HC HV) (fun e w94 hp => ?_)
      obtain ⟨rfl, hb95⟩ := hp
      refine ⟨_, rfl, fun a97 hM96 => ?_⟩
      clear hM92
      have HB98 := hide (below_then HB84.out hb95)
      have HB99 := hide (below_then HB86.out hb95)
      clear hb95 HB84 HB86
      refine seg_nil (hK89 _ _ ?_)
      clear hK89 K89 QK89
      have hM100 := hM96.cut4 (t1 := 3) (t2 := 0) (t3 := 4) (t4 := 29) rfl rfl rfl rfl
      clear hM96
      refine wp_cond_true (hM100.ev (t := 29) rfl) ?_
      refine region_then fun K101 QK101 hK101 => ?_
      refine s_val hM100 (.inl rfl) rfl rfl (ev_move (.inr rfl) rfl) (fun a103 hM102 => ?_)
      clear hM100
      refine seg_nil (hK101 _ _ ?_)
      clear hK101 K101 QK101
      have hM104 := hM102.cut3 (t1 := 3) (t2 := 0) (t3 := 2) rfl rfl rfl
      clear hM102
      refine wp_ret ?_
      exact hR _ _ (hM104.cut1 (t1 := 2) rfl) HB98
    case false =>
      refine region_then fun K105 QK105 hK105 => ?_
      refine s_val hM87 (.inl rfl) rfl rfl (ev_fldw (m := 0) rfl rfl (fun w => by simp [go_sem])) (fun a107 hM106 => ?_)
      clear hM87
      refine s_val hM106 (.inl rfl) rfl rfl (ev_loadm rfl rfl (HRCg77.out.below HB86.out) Try.underlying32 rfl (by rw [HC.out]; exact Try.infoMsg)) (fun a109 hM108 => ?_)
      clear hM106
      refine s_call hM108 (.inl rfl) rfl rfl (f := 23) (args := #[.agg C]) (ev_call hM108 rfl rfl rfl (fun w => by simp [go_sem]) _) (law7_Heavy x v _ (hide (HS.out.below HB84.out)) HL HC HV) (fun e w110 hp => ?_)
      obtain ⟨rfl, hb111⟩ := hp
      refine ⟨_, rfl, fun a113 hM112 => ?_⟩
      clear hM108
      have HB114 := hide (below_then HB84.out hb111)
      have HB115 := hide (below_then HB86.out hb111)
      clear hb111 HB84 HB86
      refine seg_nil (hK105 _ _ ?_)
      clear hK105 K105 QK105
      have hM116 := hM112.cut4 (t1 := 3) (t2 := 0) (t3 := 4) (t4 := 29) rfl rfl rfl rfl
      clear hM112
      refine wp_cond_false (hM116.ev (t := 29) rfl) ?_
      refine wp_skip ?_
      refine hK88 _ _ ?_
      obtain ⟨q1, HM⟩ : ∃ q, Hid (mayM N x = q) := ⟨_, rfl⟩
      cases q1
      case false =>
        refine region_then fun K117 QK117 hK117 => ?_
        refine s_val hM116 (.inl rfl) rfl rfl (ev_fldw (m := 0) rfl rfl (fun w => by simp [go_sem])) (fun a119 hM118 => ?_)
        clear hM116
        refine s_val hM118 (.inl rfl) rfl rfl (ev_loadm rfl rfl (HRCg77.out.below HB115.out) Try.underlying32 rfl (by rw [HC.out]; exact Try.infoMsg)) (fun a121 hM120 => ?_)
        clear hM118
        refine s_val hM120 (.inl rfl) rfl rfl (ev_fldw (m := 18) rfl rfl (fun w => by simp [go_sem])) (fun a123 hM122 => ?_)
        clear hM120
        refine s_val hM122 (.inl rfl) rfl rfl (ev_load1 (v := .int .i64 N) rfl rfl ((KB81.out.on HB115.out).rng.at_ (m := 18) (by rw [HPC.out]; rfl)) (isAgg_no Try.underlying3 rfl)) (fun a125 hM124 => ?_)
        clear hM122
        refine s_call hM124 (.inl rfl) rfl rfl (f := 20) (args := #[.agg C, .int .i64 N]) (ev_call hM124 rfl rfl rfl (fun w => by simp [go_sem]) _) (message_Encode N x v _ (hide (HS.out.below HB114.out)) HZ HC HM) (fun e w126 hp => ?_)
        obtain ⟨v', rfl, ho, hb127⟩ := hp
        obtain ⟨AO, cO, rfl, hO1, hO2⟩ := own_slice_cap ho
        clear ho hO1 hO2
        refine ⟨_, rfl, fun a129 hM128 => ?_⟩
        clear hM124
        have HB130 := hide (below_then HB114.out hb127)
        have HB131 := hide (below_then HB115.out hb127)
        clear hb127 HB114 HB115
        refine s_val hM128 (.inl rfl) rfl rfl (ev_move (.inl rfl) rfl) (fun a133 hM132 => ?_)
        clear hM128
        refine s_val hM132 (.inl rfl) rfl rfl (ev_ext rfl rfl rfl) (fun a135 hM134 => ?_)
        clear hM132
        refine s_val hM134 (.inl rfl) rfl rfl (ev_ext rfl rfl rfl) (fun a137 hM136 => ?_)
        clear hM134
        refine s_val hM136 (.inl rfl) rfl rfl (ev_move (.inr rfl) rfl) (fun a139 hM138 => ?_)
        clear hM136
        refine s_val hM138 (.inl rfl) rfl rfl (ev_move (.inr rfl) rfl) (fun a141 hM140 => ?_)
        clear hM138
        refine seg_nil (hK117 _ _ ?_)
        clear hK117 K117 QK117
        have hM142 := hM140.cut5 (t1 := 3) (t2 := 0) (t3 := 4) (t4 := 5) (t5 := 6) rfl rfl rfl rfl rfl
        clear hM140
        refine wp_seq_k fun K143 hK143 => ?_
        refine region_then fun K144 QK144 hK144 => ?_
        refine s_val hM142 (.inl rfl) rfl rfl (ev_move (.inl rfl) rfl) (fun a146 hM145 => ?_)
        clear hM142
        refine s_call hM145 (.inl rfl) rfl rfl (f := 18) (args := #[.int .i64 1]) (ev_call hM145 rfl rfl rfl (fun w => by simp [go_sem]) _) (law7_num _ _) (fun e w147 hp => ?_)
        obtain ⟨rfl, rfl⟩ := hp
        refine ⟨_, rfl, fun a150 hM149 => ?_⟩
        clear hM145
        refine s_val hM149 (.inl rfl) rfl rfl (ev_bin rfl rfl rfl g_int (b_neq (b := true) (by decide))) (fun a152 hM151 => ?_)
        clear hM149
        refine seg_nil (hK144 _ _ ?_)
        clear hK144 K144 QK144
        have hM153 := hM151.cut5 (t1 := 3) (t2 := 0) (t3 := 4) (t4 := 5) (t5 := 40) rfl rfl rfl rfl rfl
        clear hM151
        refine wp_cond_true (hM153.ev (t := 40) rfl) ?_
        refine wp_exit ?_
        have hM154 := hM153.cut2 (t1 := 3) (t2 := 0) rfl rfl
        clear hM153
        exact hE _ _ hM154 HB130
      case true =>
        obtain ⟨L, HLn⟩ : ∃ L, Hid ((msgB x).length = L) := ⟨_, rfl⟩
        have HL3 : Hid (L ≤ 30000) := by have h := (msg_size (good_of_may HM.out)).2; rw [HLn.out] at h; exact h
        refine region_then fun K155 QK155 hK155 => ?_
        refine s_val hM116 (.inl rfl) rfl rfl (ev_fldw (m := 0) rfl rfl (fun w => by simp [go_sem])) (fun a157 hM156 => ?_)
        clear hM116
        refine s_val hM156 (.inl rfl) rfl rfl (ev_loadm rfl rfl (HRCg77.out.below HB115.out) Try.underlying32 rfl (by rw [HC.out]; exact Try.infoMsg)) (fun a159 hM158 => ?_)
        clear hM156
        refine s_val hM158 (.inl rfl) rfl rfl (ev_fldw (m := 18) rfl rfl (fun w => by simp [go_sem])) (fun a161 hM160 => ?_)
        clear hM158
        refine s_val hM160 (.inl rfl) rfl rfl (ev_load1 (v := .int .i64 N) rfl rfl ((KB81.out.on HB115.out).rng.at_ (m := 18) (by rw [HPC.out]; rfl)) (isAgg_no Try.underlying3 rfl)) (fun a163 hM162 => ?_)
        clear hM160
        refine s_call hM162 (.inl rfl) rfl rfl (f := 20) (args := #[.agg C, .int .i64 N]) (ev_call hM162 rfl rfl rfl (fun w => by simp [go_sem]) _) (message_Encode N x v _ (hide (HS.out.below HB114.out)) HZ HC HM) (fun e w164 hp => ?_)
        obtain ⟨v', rfl, ho, hb165⟩ := hp
        simp only [if_true] at ho
        rw [HLn.out] at ho
        obtain ⟨AO, cO, rfl, hO1, hO2⟩ := own_slice_cap ho
        have HO := hide (Sl.of_own ho)
        clear ho hO1 hO2
        refine ⟨_, rfl, fun a167 hM166 => ?_⟩
        clear hM162
        have HB168 := hide (below_then HB114.out hb165)
        have HB169 := hide (below_then HB115.out hb165)
        clear hb165 HB114 HB115
        have HB171 : Hid (Below w164.heap.size w164 w164) := Below.refl _ _
        refine s_val hM166 (.inl rfl) rfl rfl (ev_move (.inl rfl) rfl) (fun a173 hM172 => ?_)
        clear hM166
        refine s_val hM172 (.inl rfl) rfl rfl (ev_ext rfl rfl rfl) (fun a175 hM174 => ?_)
        clear hM172
        refine s_val hM174 (.inl rfl) rfl rfl (ev_ext rfl rfl rfl) (fun a177 hM176 => ?_)
        clear hM174
        refine s_val hM176 (.inl rfl) rfl rfl (ev_move (.inr rfl) rfl) (fun a179 hM178 => ?_)
        clear hM176
        refine s_val hM178 (.inl rfl) rfl rfl (ev_move (.inr rfl) rfl) (fun a181 hM180 => ?_)
        clear hM178
        refine seg_nil (hK155 _ _ ?_)
        clear hK155 K155 QK155
        have hM182 := hM180.cut5 (t1 := 3) (t2 := 0) (t3 := 4) (t4 := 5) (t5 := 6) rfl rfl rfl rfl rfl
        clear hM180
        refine wp_seq_k fun K183 hK183 => ?_
        refine region_then fun K184 QK184 hK184 => ?_
        refine s_val hM182 (.inl rfl) rfl rfl (ev_move (.inl rfl) rfl) (fun a186 hM185 => ?_)
        clear hM182
        refine s_call hM185 (.inl rfl) rfl rfl (f := 18) (args := #[.int .i64 0]) (ev_call hM185 rfl rfl rfl (fun w => by simp [go_sem]) _) (law7_num _ _) (fun e w187 hp => ?_)
        obtain ⟨rfl, rfl⟩ := hp
        refine ⟨_, rfl, fun a190 hM189 => ?_⟩
        clear hM185
        refine s_val hM189 (.inl rfl) rfl rfl (ev_bin rfl rfl rfl g_int (b_neq (b := false) (by decide))) (fun a192 hM191 => ?_)
        clear hM189
        refine seg_nil (hK184 _ _ ?_)
        clear hK184 K184 QK184
        have hM193 := hM191.cut5 (t1 := 3) (t2 := 0) (t3 := 4) (t4 := 5) (t5 := 40) rfl rfl rfl rfl rfl
        clear hM191
        refine wp_cond_false (hM193.ev (t := 40) rfl) ?_
        refine wp_skip ?_
        refine hK183 _ _ ?_
        refine region_then fun K194 QK194 hK194 => ?_
        refine s_val hM193 (.inl rfl) rfl rfl (ev_move (.inr rfl) rfl) (fun a196 hM195 => ?_)
        clear hM193
        refine seg_nil (hK194 _ _ ?_)
        clear hK194 K194 QK194
        have hM197 := hM195.cut5 (t1 := 3) (t2 := 0) (t3 := 4) (t4 := 5) (t5 := 7) rfl rfl rfl rfl rfl
        clear hM195
        have hM198 := hM197.cut5 (t1 := 7) (t2 := 3) (t3 := 0) (t4 := 4) (t5 := 5) rfl rfl rfl rfl rfl
        clear hM197
        refine wp_block ?_
        refine wp_loop_ghost (fun m a w' => ∃ j : Nat, m = L - j ∧ Frm a 110 [(7, .int .i64 (j : Int)), (3, .int .i64 ((k : Int))), (0, .slice ((some ⟨b, off, none⟩)) n c), (4, .pointer (some ⟨g77, 0, none⟩)), (5, .slice AO L cO)] ∧ Hid (Below w.heap.size w w') ∧ Hid (Below w78.heap.size w78 w') ∧ Hid (Below w164.heap.size w164 w')) L ⟨0, by omega, hM198, HB168, HB169, HB171⟩ ?_
        clear HB168 HB169 HB171 hM198
        rintro m205 a200 w199 ⟨j, rfl, hM201, HB202, HB203, HB204⟩
        refine wp_seq_k fun K206 hK206 => ?_
        by_cases hjl : j < L
        case neg =>
          have HJ := hide hjl
          clear hjl
          refine region_then fun K207 QK207 hK207 => ?_
          refine s_val hM201 (.inl rfl) rfl rfl (ev_move (.inl rfl) rfl) (fun a209 hM208 => ?_)
          clear hM201
          refine s_val hM208 (.inl rfl) rfl rfl (ev_move (.inl rfl) rfl) (fun a211 hM210 => ?_)
          clear hM208
          refine s_val hM210 (.inl rfl) rfl rfl (ev_len rfl rfl Try.underlying33) (fun a213 hM212 => ?_)
          clear hM210
          refine s_val hM212 (.inl rfl) rfl rfl (ev_bin rfl rfl rfl g_int (b_lss (b := false) (by have := HJ.out; rw [decide_eq_false_iff_not]; omega))) (fun a215 hM214 => ?_)
          clear hM212
          refine seg_nil (hK207 _ _ ?_)
          clear hK207 K207 QK207
          have hM216 := hM214.cut6 (t1 := 3) (t2 := 0) (t3 := 7) (t4 := 4) (t5 := 5) (t6 := 44) rfl rfl rfl rfl rfl rfl
          clear hM214
          refine wp_cond_false (hM216.ev (t := 44) rfl) ?_
          refine wp_exit ?_
          repeat (with_reducible refine th_e ?_)
          refine inb_e ?_
          have hM217 := hM216.cut2 (t1 := 3) (t2 := 0) rfl rfl
          clear hM216
          exact hN _ _ hM217 HB202
        case pos =>
          have HJ := hide hjl
          clear hjl
          refine region_then fun K218 QK218 hK218 => ?_
          refine s_val hM201 (.inl rfl) rfl rfl (ev_move (.inl rfl) rfl) (fun a220 hM219 => ?_)
          clear hM201
          refine s_val hM219 (.inl rfl) rfl rfl (ev_move (.inl rfl) rfl) (fun a222 hM221 => ?_)
          clear hM219
          refine s_val hM221 (.inl rfl) rfl rfl (ev_len rfl rfl Try.underlying33) (fun a224 hM223 => ?_)
          clear hM221
          refine s_val hM223 (.inl rfl) rfl rfl (ev_bin rfl rfl rfl g_int (b_lss (b := true) (by have := HJ.out; rw [decide_eq_true_eq]; omega))) (fun a226 hM225 => ?_)
          clear hM223
          refine seg_nil (hK218 _ _ ?_)
          clear hK218 K218 QK218
          have hM227 := hM225.cut6 (t1 := 3) (t2 := 0) (t3 := 7) (t4 := 4) (t5 := 5) (t6 := 44) rfl rfl rfl rfl rfl rfl
          clear hM225
          refine wp_cond_true (hM227.ev (t := 44) rfl) ?_
          refine wp_skip ?_
          refine hK206 _ _ ?_
          refine wp_seq_k fun K228 hK228 => ?_
          refine wp_block ?_
          refine region_then fun K229 QK229 hK229 => ?_
          refine s_val hM227 (.inl rfl) rfl rfl (ev_move (.inl rfl) rfl) (fun a231 hM230 => ?_)
          clear hM227
          refine s_call hM230 (.inl rfl) rfl rfl (f := 15) (args := #[.slice AO L cO]) (ev_call hM230 rfl rfl rfl (fun w => by simp [go_sem]) _) (ref0_CopyBytes AO L cO (msgB x) _ (HO.out.below HB204.out) (by have := HL3.out; omega) (by have := HL3.out; omega)) (fun e w232 hp => ?_)
          obtain ⟨v', rfl, ho, hb233⟩ := hp
          obtain ⟨gx, cX, cur, rfl, hge, KX0, hsz, hnc, hcm, hcur⟩ := own_open ho (by have := HJ.out; omega)
          obtain ⟨ub, HUB⟩ : ∃ u, Hid ((msgB x)[j]? = some u) := ⟨_, List.getElem?_eq_getElem (by have h1 := HJ.out; have h2 := HLn.out; omega)⟩
          have HUC : Hid (cur[j]? = some (.int .u8 (ub.toNat : Int))) := hcur j _ (by simp [bytes8, HUB.out])
          have KX := hide KX0
          have HXS := hide hsz
          have HXC := hide (And.intro hnc hcm)
          have HCU := hide hcur
          have lo236 := hide (Nat.le_trans HB202.out.size hge)
          have lo237 := hide (Nat.le_trans HB203.out.size hge)
          have lo238 := hide (Nat.le_trans HB204.out.size hge)
          clear ho KX0 hsz hnc hcm hcur hge
          refine ⟨_, rfl, fun a235 hM234 => ?_⟩
          clear hM230
          have HB239 := hide (below_then HB202.out hb233)
          have HB240 := hide (below_then HB203.out hb233)
          have HB241 := hide (below_then HB204.out hb233)
          clear hb233 HB202 HB203 HB204
          have HB243 : Hid (Below w232.heap.size w232 w232) := Below.refl _ _
          refine s_val hM234 (.inl rfl) rfl rfl (ev_move (.inr rfl) rfl) (fun a245 hM244 => ?_)
          clear hM234
          refine seg_nil (hK229 _ _ ?_)
          clear hK229 K229 QK229
          have hM246 := hM244.cut6 (t1 := 3) (t2 := 0) (t3 := 7) (t4 := 4) (t5 := 5) (t6 := 8) rfl rfl rfl rfl rfl rfl
          clear hM244
          refine region_then fun K247 QK247 hK247 => ?_
          refine s_val hM246 (.inl rfl) rfl rfl (ev_move (.inl rfl) rfl) (fun a249 hM248 => ?_)
          clear hM246
          refine s_val hM248 (.inl rfl) rfl rfl (ev_move (.inl rfl) rfl) (fun a251 hM250 => ?_)
          clear hM248
          refine s_val hM250 (.inl rfl) rfl rfl (ev_move (.inl rfl) rfl) (fun a253 hM252 => ?_)
          clear hM250
          refine s_val hM252 (.inl rfl) rfl rfl (ev_move (.inl rfl) rfl) (fun a255 hM254 => ?_)
          clear hM252
          refine s_val hM254 (.inl rfl) rfl rfl (ev_idx (b := gx) (k := j) (sz := 1) (p := j) rfl rfl rfl Try.underlying33 (by kernel_rfl) HJ.out (by first | rfl | omega)) (fun a257 hM256 => ?_)
          clear hM254
          refine s_val hM256 (.inl rfl) rfl rfl (ev_load1 (v := .int .u8 (ub.toNat : Int)) rfl rfl ((KX.out.on HB243.out).at_ HUC.out) (isAgg_no Try.underlying5 rfl)) (fun a259 hM258 => ?_)
          clear hM256
          refine s_val hM258 (.inl rfl) rfl rfl (ev_move (.inl rfl) rfl) (fun a261 hM260 => ?_)
          clear hM258
          refine s_val hM260 (.inl rfl) rfl rfl (ev_move (.inl rfl) rfl) (fun a263 hM262 => ?_)
          clear hM260
          refine s_val hM262 (.inl rfl) rfl rfl (ev_bin rfl rfl rfl g_int (b_add (r := ((k + j : Nat) : Int)) (by omega) (by have := HJ.out; have := HL3.out; omega))) (fun a265 hM264 => ?_)
          clear hM262
          refine s_val hM264 (.inl rfl) rfl rfl (ev_bin rfl rfl rfl g_int (b_rem (a := k + j) (b := 255) (r := (k + j) % 255) rfl rfl (by omega) rfl (by omega))) (fun a267 hM266 => ?_)
          clear hM264
          refine s_val hM266 (.inl rfl) rfl rfl (ev_bin rfl rfl rfl g_int (b_add (r := ((1 + (k + j) % 255 : Nat) : Int)) (by omega) (by omega))) (fun a269 hM268 => ?_)
          clear hM266
          refine s_val hM268 (.inl rfl) rfl rfl (ev_conv8 rfl rfl Try.underlying3 Try.underlying5 (by omega)) (fun a271 hM270 => ?_)
          clear hM268
          refine s_val hM270 (.inl rfl) rfl rfl (ev_bin rfl rfl rfl g_int (b_xor8 (xor_u8d ub (by omega)))) (fun a273 hM272 => ?_)
          clear hM270
          refine s_val hM272 (.inl rfl) rfl rfl (ev_idx (b := gx) (k := j) (sz := 1) (p := j) rfl rfl rfl Try.underlying33 (by kernel_rfl) HJ.out (by first | rfl | omega)) (fun a275 hM274 => ?_)
          clear hM272
          refine s_put hM274 rfl rfl rfl rfl rfl (KX.out.on HB243.out) (by have := HJ.out; have := HXS.out; omega) (st_u8 Try.underlying5 (by kernel_rfl)) (fun w276 KB277_ hg278 => ?_)
          obtain ⟨ys, HYL, HY⟩ : ∃ ys : List UInt8, Hid (ys.length = L) ∧ Hid (Sl w276 1 (some ⟨gx, 0, none⟩) L (bytes8 ys)) := ⟨(msgB x).set j (ub ^^^ UInt8.ofNat (1 + (k + j) % 255)), (by rw [Hid, List.length_set]; exact HLn.out), set_bytes KB277_ HLn.out HCU.out HJ.out⟩
          clear KB277_
          have HB279 := hide (below_of_grown HB239.out hg278 HB239.out.size lo236.out)
          have HB280 := hide (below_of_grown HB240.out hg278 HB240.out.size lo237.out)
          have HB281 := hide (below_of_grown HB241.out hg278 HB241.out.size lo238.out)
          clear HB239 HB240 HB241 HB243 hg278
          have HB283 : Hid (Below w276.heap.size w276 w276) := Below.refl _ _
          refine seg_nil (hK247 _ _ ?_)
          clear hK247 K247 QK247
          have hM284 := hM274.cut6 (t1 := 3) (t2 := 0) (t3 := 7) (t4 := 4) (t5 := 5) (t6 := 8) rfl rfl rfl rfl rfl rfl
          clear hM274
          obtain ⟨r, HDE⟩ : ∃ r, Hid (decM N ys = r) := ⟨_, rfl⟩
          cases r
          case none =>
            refine region_then fun K285 QK285 hK285 => ?_
            refine s_val hM284 (.inl rfl) rfl rfl (ev_move (.inl rfl) rfl) (fun a287 hM286 => ?_)
            clear hM284
            refine s_val hM286 (.inl rfl) rfl rfl (ev_fldw (m := 18) rfl rfl (fun w => by simp [go_sem])) (fun a289 hM288 => ?_)
            clear hM286
            refine s_val hM288 (.inl rfl) rfl rfl (ev_load1 (v := .int .i64 N) rfl rfl ((KB81.out.on HB280.out).rng.at_ (m := 18) (by rw [HPC.out]; rfl)) (isAgg_no Try.underlying3 rfl)) (fun a291 hM290 => ?_)
            clear hM288
            refine s_call hM290 (.inl rfl) rfl rfl (f := 16) (args := #[.slice ((some ⟨gx, 0, none⟩)) L cX, .int .i64 N]) (ev_call hM290 rfl rfl rfl (fun w => by simp [go_sem]) _) (message_Decode N _ (HY.out.below HB283.out) HXC.out.1 HXC.out.2 HDE) (fun e w292 hp => ?_)
            obtain ⟨D, u, rfl, hD, hb293⟩ := hp
            have HD : Hid (D = msC zM u) := hD.out.1
            have HSD : Hid (MsS w292 zM u) := hD.out.2.1
            have HZD : Hid (MsZ zM u) := hD.out.2.2
            clear hD
            refine ⟨_, rfl, fun a295 hM294 => ?_⟩
            clear hM290
            have HB296 := hide (below_then HB279.out hb293)
            have HB297 := hide (below_then HB280.out hb293)
            have HB298 := hide (below_then HB281.out hb293)
            have HB299 := hide (below_then HB283.out hb293)
            clear hb293 HB279 HB280 HB281 HB283
            have HB301 : Hid (Below w292.heap.size w292 w292) := Below.refl _ _
            refine s_val hM294 (.inl rfl) rfl rfl (ev_move (.inl rfl) rfl) (fun a303 hM302 => ?_)
            clear hM294
            refine s_val hM302 (.inl rfl) rfl rfl (ev_ext rfl rfl rfl) (fun a305 hM304 => ?_)
            clear hM302
            refine s_val hM304 (.inl rfl) rfl rfl (ev_ext rfl rfl rfl) (fun a307 hM306 => ?_)
            clear hM304
            refine s_new hM306 rfl rfl rfl rfl alloc_msg rfl rfl rfl rfl (by rw [HD.out]; exact Try.infoMsg) (by rw [HD.out]; rfl) (one_msg HD.out) (fun g308 a314 w309 hM313 KB312_ hb310 hg311 => ?_)
            have KB312 := hide KB312_
            clear hM306 KB312_
            clear hg311
            have HB315 := hide (below_then HB296.out hb310)
            have HB316 := hide (below_then HB297.out hb310)
            have HB317 := hide (below_then HB298.out hb310)
            have HB318 := hide (below_then HB299.out hb310)
            have HB319 := hide (below_then HB301.out hb310)
            clear hb310 HB296 HB297 HB298 HB299 HB301
            have HB321 : Hid (Below w309.heap.size w309 w309) := Below.refl _ _
            refine s_val hM313 (.inl rfl) rfl rfl (ev_move (.inr rfl) rfl) (fun a323 hM322 => ?_)
            clear hM313
            refine seg_nil (hK285 _ _ ?_)
            clear hK285 K285 QK285
            have hM324 := hM322.cut8 (t1 := 3) (t2 := 0) (t3 := 7) (t4 := 4) (t5 := 5) (t6 := 8) (t7 := 9) (t8 := 10) rfl rfl rfl rfl rfl rfl rfl rfl
            clear hM322
            refine wp_seq_k fun K325 hK325 => ?_
            refine region_then fun K326 QK326 hK326 => ?_
            refine s_val hM324 (.inl rfl) rfl rfl (ev_move (.inl rfl) rfl) (fun a328 hM327 => ?_)
            clear hM324
            refine s_call hM327 (.inl rfl) rfl rfl (f := 18) (args := #[.int .i64 1]) (ev_call hM327 rfl rfl rfl (fun w => by simp [go_sem]) _) (law7_num _ _) (fun e w329 hp => ?_)
            obtain ⟨rfl, rfl⟩ := hp
            refine ⟨_, rfl, fun a332 hM331 => ?_⟩
            clear hM327
            refine s_val hM331 (.inl rfl) rfl rfl (ev_bin rfl rfl rfl g_int (b_neq (b := true) (by decide))) (fun a334 hM333 => ?_)
            clear hM331
            refine seg_nil (hK326 _ _ ?_)
            clear hK326 K326 QK326
            have hM335 := hM333.cut9 (t1 := 3) (t2 := 0) (t3 := 7) (t4 := 4) (t5 := 5) (t6 := 8) (t7 := 9) (t8 := 10) (t9 := 76) rfl rfl rfl rfl rfl rfl rfl rfl rfl
            clear hM333
            refine wp_cond_true (hM335.ev (t := 76) rfl) ?_
            refine wp_seq_k fun K336 hK336 => ?_
            refine region_then fun K337 QK337 hK337 => ?_
            refine s_val hM335 (.inl rfl) rfl rfl (ev_move (.inl rfl) rfl) (fun a339 hM338 => ?_)
            clear hM335
            refine s_call hM338 (.inl rfl) rfl rfl (f := 18) (args := #[.int .i64 1]) (ev_call hM338 rfl rfl rfl (fun w => by simp [go_sem]) _) (law7_num _ _) (fun e w340 hp => ?_)
            obtain ⟨rfl, rfl⟩ := hp
            refine ⟨_, rfl, fun a343 hM342 => ?_⟩
            clear hM338
            refine s_val hM342 (.inl rfl) rfl rfl (ev_bin rfl rfl rfl g_int (b_neq (b := false) (by decide))) (fun a345 hM344 => ?_)
            clear hM342
            refine s_val hM344 (.inl rfl) rfl rfl (ev_move (.inl rfl) rfl) (fun a347 hM346 => ?_)
            clear hM344
            refine s_val hM346 (.inr ⟨_, _, _, rfl, rfl, rfl⟩) rfl rfl (ev_loadm rfl rfl (KB312.out.on HB321.out).rng Try.underlying32 rfl (by rw [HD.out]; exact Try.infoMsg)) (fun a349 hM348 => ?_)
            clear hM346
            refine s_val hM348 (.inr ⟨_, _, _, rfl, rfl, rfl⟩) rfl rfl (build_msg rfl HZM.out) (fun a351 hM350 => ?_)
            clear hM348
            refine s_call hM350 (.inr ⟨_, _, _, rfl, rfl, rfl⟩) rfl rfl (f := 19) (args := #[.agg D, .agg ZM]) (ev_call hM350 rfl rfl rfl (fun w => by simp [go_sem]) _) (ref0_EqMessage zM zM u zV _ (hide (HSD.out.below HB319.out)) HZD (hide (zM_s _)) (hide zM_z) HD HZM (r := true) (by simp [Hid])) (fun e w352 hp => ?_)
            obtain ⟨rfl, hb353⟩ := hp
            refine ⟨_, rfl, fun a355 hM354 => ?_⟩
            clear hM350
            have HB356 := hide (below_then HB315.out hb353)
            have HB357 := hide (below_then HB316.out hb353)
            have HB358 := hide (below_then HB317.out hb353)
            have HB359 := hide (below_then HB318.out hb353)
            have HB360 := hide (below_then HB319.out hb353)
            have HB361 := hide (below_then HB321.out hb353)
            clear hb353 HB315 HB316 HB317 HB318 HB319 HB321
            refine s_val hM354 (.inr ⟨_, _, _, rfl, rfl, rfl⟩) rfl rfl (ev_not rfl rfl rfl) (fun a363 hM362 => ?_)
            clear hM354
            refine s_val hM362 (.inl rfl) rfl rfl (ev_pick rfl rfl rfl) (fun a365 hM364 => ?_)
            clear hM362
            refine seg_nil (hK337 _ _ ?_)
            clear hK337 K337 QK337
            have hM366 := hM364.cut6 (t1 := 3) (t2 := 0) (t3 := 7) (t4 := 4) (t5 := 5) (t6 := 85) rfl rfl rfl rfl rfl rfl
            clear hM364
            refine wp_cond_false (hM366.ev (t := 85) rfl) ?_
            refine wp_skip ?_
            refine hK336 _ _ ?_
            refine wp_exit ?_
            repeat (with_reducible refine th_e ?_)
            refine inb_e ?_
            refine hK228 _ _ ?_
            refine region_last fun K367 QK367 hK367 => ?_
            refine s_val hM366 (.inl rfl) rfl rfl (ev_move (.inl rfl) rfl) (fun a369 hM368 => ?_)
            clear hM366
            refine s_val hM368 (.inl rfl) rfl rfl (ev_bin rfl rfl rfl g_int (b_add (r := ((j + 1 : Nat) : Int)) (by omega) (by have := HJ.out; have := HL3.out; omega))) (fun a371 hM370 => ?_)
            clear hM368
            refine s_val hM370 (.inl rfl) rfl rfl (ev_move (.inl rfl) rfl) (fun a373 hM372 => ?_)
            clear hM370
            refine s_val hM372 (.inl rfl) rfl rfl (ev_len rfl rfl Try.underlying33) (fun a375 hM374 => ?_)
            clear hM372
            refine s_val hM374 (.inl rfl) rfl rfl (ev_bin rfl rfl rfl g_int (b_quo (a := L) (b := 40) (r := L / 40) rfl rfl (by omega) rfl (by have := HL3.out; omega))) (fun a377 hM376 => ?_)
            clear hM374
            refine s_val hM376 (.inl rfl) rfl rfl (ev_bin rfl rfl rfl g_int (b_add (r := ((j + 1 + L / 40 : Nat) : Int)) (by omega) (by have := HJ.out; have := HL3.out; omega))) (fun a379 hM378 => ?_)
            clear hM376
            refine s_val hM378 (.inl rfl) rfl rfl (ev_move (.inr rfl) rfl) (fun a381 hM380 => ?_)
            clear hM378
            refine seg_nil (hK367 _ _ ?_)
            clear hK367 K367 QK367
            have hM382 := hM380.cut5 (t1 := 3) (t2 := 0) (t3 := 7) (t4 := 4) (t5 := 5) rfl rfl rfl rfl rfl
            clear hM380
            have hM383 := hM382.cut5 (t1 := 7) (t2 := 3) (t3 := 0) (t4 := 4) (t5 := 5) rfl rfl rfl rfl rfl
            clear hM382
            exact ⟨L - (j + 1 + L / 40), by have := HJ.out; omega, j + 1 + L / 40, rfl, hM383, HB356, HB357, HB358⟩
          case some y =>
            have HMB := hide (decM_back HDE.out).2
            have HMY := hide (decM_back HDE.out).1
            refine region_then fun K384 QK384 hK384 => ?_
            refine s_val hM284 (.inl rfl) rfl rfl (ev_move (.inl rfl) rfl) (fun a386 hM385 => ?_)
            clear hM284
            refine s_val hM385 (.inl rfl) rfl rfl (ev_fldw (m := 18) rfl rfl (fun w => by simp [go_sem])) (fun a388 hM387 => ?_)
            clear hM385
            refine s_val hM387 (.inl rfl) rfl rfl (ev_load1 (v := .int .i64 N) rfl rfl ((KB81.out.on HB280.out).rng.at_ (m := 18) (by rw [HPC.out]; rfl)) (isAgg_no Try.underlying3 rfl)) (fun a390 hM389 => ?_)
            clear hM387
            refine s_call hM389 (.inl rfl) rfl rfl (f := 16) (args := #[.slice ((some ⟨gx, 0, none⟩)) L cX, .int .i64 N]) (ev_call hM389 rfl rfl rfl (fun w => by simp [go_sem]) _) (message_Decode N _ (HY.out.below HB283.out) HXC.out.1 HXC.out.2 HDE) (fun e w391 hp => ?_)
            obtain ⟨D, u, rfl, hD, hb392⟩ := hp
            have HD : Hid (D = msC y u) := hD.out.1
            have HSD : Hid (MsS w391 y u) := hD.out.2.1
            have HZD : Hid (MsZ y u) := hD.out.2.2
            clear hD
            refine ⟨_, rfl, fun a394 hM393 => ?_⟩
            clear hM389
            have HB395 := hide (below_then HB279.out hb392)
            have HB396 := hide (below_then HB280.out hb392)
            have HB397 := hide (below_then HB281.out hb392)
            have HB398 := hide (below_then HB283.out hb392)
            clear hb392 HB279 HB280 HB281 HB283
            have HB400 : Hid (Below w391.heap.size w391 w391) := Below.refl _ _
            refine s_val hM393 (.inl rfl) rfl rfl (ev_move (.inl rfl) rfl) (fun a402 hM401 => ?_)
            clear hM393
            refine s_val hM401 (.inl rfl) rfl rfl (ev_ext rfl rfl rfl) (fun a404 hM403 => ?_)
            clear hM401
            refine s_val hM403 (.inl rfl) rfl rfl (ev_ext rfl rfl rfl) (fun a406 hM405 => ?_)
            clear hM403
            refine s_new hM405 rfl rfl rfl rfl alloc_msg rfl rfl rfl rfl (by rw [HD.out]; exact Try.infoMsg) (by rw [HD.out]; rfl) (one_msg HD.out) (fun g407 a413 w408 hM412 KB411_ hb409 hg410 => ?_)
            have KB411 := hide KB411_
            clear hM405 KB411_
            clear hg410
            have HB414 := hide (below_then HB395.out hb409)
            have HB415 := hide (below_then HB396.out hb409)
            have HB416 := hide (below_then HB397.out hb409)
            have HB417 := hide (below_then HB398.out hb409)
            have HB418 := hide (below_then HB400.out hb409)
            clear hb409 HB395 HB396 HB397 HB398 HB400
            have HB420 : Hid (Below w408.heap.size w408 w408) := Below.refl _ _
            refine s_val hM412 (.inl rfl) rfl rfl (ev_move (.inr rfl) rfl) (fun a422 hM421 => ?_)
            clear hM412
            refine seg_nil (hK384 _ _ ?_)
            clear hK384 K384 QK384
            have hM423 := hM421.cut8 (t1 := 3) (t2 := 0) (t3 := 7) (t4 := 4) (t5 := 5) (t6 := 8) (t7 := 9) (t8 := 10) rfl rfl rfl rfl rfl rfl rfl rfl
            clear hM421
            refine wp_seq_k fun K424 hK424 => ?_
            refine region_then fun K425 QK425 hK425 => ?_
            refine s_val hM423 (.inl rfl) rfl rfl (ev_move (.inl rfl) rfl) (fun a427 hM426 => ?_)
            clear hM423
            refine s_call hM426 (.inl rfl) rfl rfl (f := 18) (args := #[.int .i64 0]) (ev_call hM426 rfl rfl rfl (fun w => by simp [go_sem]) _) (law7_num _ _) (fun e w428 hp => ?_)
            obtain ⟨rfl, rfl⟩ := hp
            refine ⟨_, rfl, fun a431 hM430 => ?_⟩
            clear hM426
            refine s_val hM430 (.inl rfl) rfl rfl (ev_bin rfl rfl rfl g_int (b_neq (b := false) (by decide))) (fun a433 hM432 => ?_)
            clear hM430
            refine seg_nil (hK425 _ _ ?_)
            clear hK425 K425 QK425
            have hM434 := hM432.cut9 (t1 := 3) (t2 := 0) (t3 := 7) (t4 := 4) (t5 := 5) (t6 := 8) (t7 := 9) (t8 := 10) (t9 := 76) rfl rfl rfl rfl rfl rfl rfl rfl rfl
            clear hM432
            refine wp_cond_false (hM434.ev (t := 76) rfl) ?_
            refine wp_skip ?_
            refine hK424 _ _ ?_
            refine region_then fun K435 QK435 hK435 => ?_
            refine s_val hM434 (.inl rfl) rfl rfl (ev_loadm rfl rfl (KB411.out.on HB420.out).rng Try.underlying32 rfl (by rw [HD.out]; exact Try.infoMsg)) (fun a437 hM436 => ?_)
            clear hM434
            refine s_val hM436 (.inl rfl) rfl rfl (ev_fldw (m := 18) rfl rfl (fun w => by simp [go_sem])) (fun a439 hM438 => ?_)
            clear hM436
            refine s_val hM438 (.inl rfl) rfl rfl (ev_load1 (v := .int .i64 N) rfl rfl ((KB81.out.on HB415.out).rng.at_ (m := 18) (by rw [HPC.out]; rfl)) (isAgg_no Try.underlying3 rfl)) (fun a441 hM440 => ?_)
            clear hM438
            refine s_call hM440 (.inl rfl) rfl rfl (f := 20) (args := #[.agg D, .int .i64 N]) (ev_call hM440 rfl rfl rfl (fun w => by simp [go_sem]) _) (message_Encode N y u _ (hide (HSD.out.below HB418.out)) HZD HD HMY) (fun e w442 hp => ?_)
            obtain ⟨v', rfl, ho, hb443⟩ := hp
            simp only [if_true] at ho
            rw [HMB.out, HYL.out] at ho
            obtain ⟨AE, cE, rfl, hO1, hO2⟩ := own_slice_cap ho
            have HE := hide (Sl.of_own ho)
            clear ho hO1 hO2
            refine ⟨_, rfl, fun a445 hM444 => ?_⟩
            clear hM440
            have HB446 := hide (below_then HB414.out hb443)
            have HB447 := hide (below_then HB415.out hb443)
            have HB448 := hide (below_then HB416.out hb443)
            have HB449 := hide (below_then HB417.out hb443)
            have HB450 := hide (below_then HB418.out hb443)
            have HB451 := hide (below_then HB420.out hb443)
            clear hb443 HB414 HB415 HB416 HB417 HB418 HB420
            have HB453 : Hid (Below w442.heap.size w442 w442) := Below.refl _ _
            refine s_val hM444 (.inl rfl) rfl rfl (ev_move (.inl rfl) rfl) (fun a455 hM454 => ?_)
            clear hM444
            refine s_val hM454 (.inl rfl) rfl rfl (ev_ext rfl rfl rfl) (fun a457 hM456 => ?_)
            clear hM454
            refine s_val hM456 (.inl rfl) rfl rfl (ev_ext rfl rfl rfl) (fun a459 hM458 => ?_)
            clear hM456
            refine s_val hM458 (.inl rfl) rfl rfl (ev_move (.inr rfl) rfl) (fun a461 hM460 => ?_)
            clear hM458
            refine s_val hM460 (.inl rfl) rfl rfl (ev_move (.inr rfl) rfl) (fun a463 hM462 => ?_)
            clear hM460
            refine seg_nil (hK435 _ _ ?_)
            clear hK435 K435 QK435
            have hM464 := hM462.cut9 (t1 := 3) (t2 := 0) (t3 := 7) (t4 := 4) (t5 := 5) (t6 := 8) (t7 := 9) (t8 := 11) (t9 := 12) rfl rfl rfl rfl rfl rfl rfl rfl rfl
            clear hM462
            refine region_then fun K465 QK465 hK465 => ?_
            refine s_val hM464 (.inl rfl) rfl rfl (ev_move (.inl rfl) rfl) (fun a467 hM466 => ?_)
            clear hM464
            refine s_call hM466 (.inl rfl) rfl rfl (f := 18) (args := #[.int .i64 0]) (ev_call hM466 rfl rfl rfl (fun w => by simp [go_sem]) _) (law7_num _ _) (fun e w468 hp => ?_)
            obtain ⟨rfl, rfl⟩ := hp
            refine ⟨_, rfl, fun a471 hM470 => ?_⟩
            clear hM466
            refine s_val hM470 (.inl rfl) rfl rfl (ev_bin rfl rfl rfl g_int (b_neq (b := false) (by decide))) (fun a473 hM472 => ?_)
            clear hM470
            refine s_val hM472 (.inl rfl) rfl rfl (ev_move (.inl rfl) rfl) (fun a475 hM474 => ?_)
            clear hM472
            refine s_val hM474 (.inr ⟨_, _, _, rfl, rfl, rfl⟩) rfl rfl (ev_move (.inl rfl) rfl) (fun a477 hM476 => ?_)
            clear hM474
            refine s_val hM476 (.inr ⟨_, _, _, rfl, rfl, rfl⟩) rfl rfl (ev_move (.inl rfl) rfl) (fun a479 hM478 => ?_)
            clear hM476
            refine s_call hM478 (.inr ⟨_, _, _, rfl, rfl, rfl⟩) rfl rfl (f := 17) (args := #[.slice AE L cE, .slice ((some ⟨gx, 0, none⟩)) L cX]) (ev_call hM478 rfl rfl rfl (fun w => by simp [go_sem]) _) (eqBytes_b _ (HE.out.below HB453.out) (by have := HL3.out; omega) (HY.out.below HB449.out) (by have := HL3.out; omega) (r := true) (by simp [Hid])) (fun e w480 hp => ?_)
            obtain ⟨rfl, hb481⟩ := hp
            refine ⟨_, rfl, fun a483 hM482 => ?_⟩
            clear hM478
            have HB484 := hide (below_then HB446.out hb481)
            have HB485 := hide (below_then HB447.out hb481)
            have HB486 := hide (below_then HB448.out hb481)
            have HB487 := hide (below_then HB449.out hb481)
            have HB488 := hide (below_then HB450.out hb481)
            have HB489 := hide (below_then HB451.out hb481)
            have HB490 := hide (below_then HB453.out hb481)
            clear hb481 HB446 HB447 HB448 HB449 HB450 HB451 HB453
            refine s_val hM482 (.inr ⟨_, _, _, rfl, rfl, rfl⟩) rfl rfl (ev_not rfl rfl rfl) (fun a492 hM491 => ?_)
            clear hM482
            refine s_val hM491 (.inl rfl) rfl rfl (ev_pick rfl rfl rfl) (fun a494 hM493 => ?_)
            clear hM491
            refine s_val hM493 (.inl rfl) rfl rfl (ev_move (.inl rfl) rfl) (fun a496 hM495 => ?_)
            clear hM493
            refine s_val hM495 (.inr ⟨_, _, _, rfl, rfl, rfl⟩) rfl rfl (ev_loadm rfl rfl (KB411.out.on HB489.out).rng Try.underlying32 rfl (by rw [HD.out]; exact Try.infoMsg)) (fun a498 hM497 => ?_)
            clear hM495
            refine s_val hM497 (.inr ⟨_, _, _, rfl, rfl, rfl⟩) rfl rfl (ev_fldw (m := 18) rfl rfl (fun w => by simp [go_sem])) (fun a500 hM499 => ?_)
            clear hM497
            refine s_val hM499 (.inr ⟨_, _, _, rfl, rfl, rfl⟩) rfl rfl (ev_load1 (v := .int .i64 N) rfl rfl ((KB81.out.on HB485.out).rng.at_ (m := 18) (by rw [HPC.out]; rfl)) (isAgg_no Try.underlying3 rfl)) (fun a502 hM501 => ?_)
            clear hM499
            refine s_call hM501 (.inr ⟨_, _, _, rfl, rfl, rfl⟩) rfl rfl (f := 21) (args := #[.agg D, .int .i64 N]) (ev_call hM501 rfl rfl rfl (fun w => by simp [go_sem]) _) (ref4_Message N y u _ (hide (HSD.out.below HB488.out)) HZD HD HMY) (fun e w503 hp => ?_)
            obtain ⟨rfl, hb504⟩ := hp
            refine ⟨_, rfl, fun a506 hM505 => ?_⟩
            clear hM501
            have HB507 := hide (below_then HB484.out hb504)
            have HB508 := hide (below_then HB485.out hb504)
            have HB509 := hide (below_then HB486.out hb504)
            have HB510 := hide (below_then HB487.out hb504)
            have HB511 := hide (below_then HB488.out hb504)
            have HB512 := hide (below_then HB489.out hb504)
            have HB513 := hide (below_then HB490.out hb504)
            clear hb504 HB484 HB485 HB486 HB487 HB488 HB489 HB490
            refine s_val hM505 (.inr ⟨_, _, _, rfl, rfl, rfl⟩) rfl rfl (ev_not rfl rfl rfl) (fun a515 hM514 => ?_)
            clear hM505
            refine s_val hM514 (.inl rfl) rfl rfl (ev_pick rfl rfl rfl) (fun a517 hM516 => ?_)
            clear hM514
            refine seg_nil (hK465 _ _ ?_)
            clear hK465 K465 QK465
            have hM518 := hM516.cut6 (t1 := 3) (t2 := 0) (t3 := 7) (t4 := 4) (t5 := 5) (t6 := 108) rfl rfl rfl rfl rfl rfl
            clear hM516
            refine wp_cond_false (hM518.ev (t := 108) rfl) ?_
            refine wp_skip ?_
            refine inb_n ?_
            refine hK228 _ _ ?_
            refine region_last fun K519 QK519 hK519 => ?_
            refine s_val hM518 (.inl rfl) rfl rfl (ev_move (.inl rfl) rfl) (fun a521 hM520 => ?_)
            clear hM518
            refine s_val hM520 (.inl rfl) rfl rfl (ev_bin rfl rfl rfl g_int (b_add (r := ((j + 1 : Nat) : Int)) (by omega) (by have := HJ.out; have := HL3.out; omega))) (fun a523 hM522 => ?_)
            clear hM520
            refine s_val hM522 (.inl rfl) rfl rfl (ev_move (.inl rfl) rfl) (fun a525 hM524 => ?_)
            clear hM522
            refine s_val hM524 (.inl rfl) rfl rfl (ev_len rfl rfl Try.underlying33) (fun a527 hM526 => ?_)
            clear hM524
            refine s_val hM526 (.inl rfl) rfl rfl (ev_bin rfl rfl rfl g_int (b_quo (a := L) (b := 40) (r := L / 40) rfl rfl (by omega) rfl (by have := HL3.out; omega))) (fun a529 hM528 => ?_)
            clear hM526
            refine s_val hM528 (.inl rfl) rfl rfl (ev_bin rfl rfl rfl g_int (b_add (r := ((j + 1 + L / 40 : Nat) : Int)) (by omega) (by have := HJ.out; have := HL3.out; omega))) (fun a531 hM530 => ?_)
            clear hM528
            refine s_val hM530 (.inl rfl) rfl rfl (ev_move (.inr rfl) rfl) (fun a533 hM532 => ?_)
            clear hM530
            refine seg_nil (hK519 _ _ ?_)
            clear hK519 K519 QK519
            have hM534 := hM532.cut5 (t1 := 3) (t2 := 0) (t3 := 7) (t4 := 4) (t5 := 5) rfl rfl rfl rfl rfl
            clear hM532
            have hM535 := hM534.cut5 (t1 := 7) (t2 := 3) (t3 := 0) (t4 := 4) (t5 := 5) rfl rfl rfl rfl rfl
            clear hM534
            exact ⟨L - (j + 1 + L / 40), by have := HJ.out; omega, j + 1 + L / 40, rfl, hM535, HB507, HB508, HB509⟩
  · intro a w1 Q hM HB0 hk
    refine region_last fun K536 QK536 hK536 => ?_
    refine s_call hM (.inl rfl) rfl rfl (f := 22) (args := #[]) (ev_call hM rfl rfl rfl (fun w => by simp [go_sem]) _) (law7_wakes _) (fun e w537 hp => ?_)
    obtain ⟨rfl, hb538⟩ := hp
    refine ⟨_, rfl, fun a540 hM539 => ?_⟩
    clear hM
    have HB541 := hide (below_then HB0.out hb538)
    clear hb538 HB0
    refine s_val hM539 (.inl rfl) rfl rfl (ev_move (.inr rfl) rfl) (fun a543 hM542 => ?_)
    clear hM539
    refine seg_nil (hK536 _ _ ?_)
    clear hK536 K536 QK536
    have hM544 := hM542.cut1 (t1 := 2) rfl
    clear hM542
    exact hk _ _ hM544 HB541
  · intro a w1 hM HB
    refine bodyPost_ret (results_tmp rfl _ _ _) hM.2.1 ?_
    rw [show a.tmps.getD 2 undef = .bool true from hM.ev (t := 2) rfl]
    exact ⟨rfl, HB.out⟩
end Go.Proofs.Ytmnogefpphonlaa
