/-
  The walk of kind: whatever the list of records, the call answers true and changes nothing that was there.
-/
import Derived.Test.YtmnogefpphonlaaGr29
import Derived.Test.YtmnogefpphonlaaMsgK
set_option linter.unusedVariables false
set_option linter.unusedSimpArgs false
namespace Go.Proofs.Ytmnogefpphonlaa
open Go.RowKit
set_option maxRecDepth 100000 in
set_option maxHeartbeats 4000000 in
theorem walk_kind {v : Value} {w : World} (kk : Int) (ho : ∃ A n c, v = .slice A n c ∧ Asks7 w A n) :
    Calls Try.prog 26 #[v, .int .i64 kk] w fun r w' => r = .returned (.bool true) ∧ Below w.heap.size w w' := by
  obtain ⟨A, n, c, rfl, hn, h⟩ := ho
  have HH := hide h
  clear h
  go_enter Try.func26, Try.ntmps26
  refine law_shape (NS := 154) (t := 21) (si := 5) (sr := 4) (n := n) (M0 := [(0, .slice A n c), (1, .int .i64 kk)]) (Frm.start rfl (by intro p hp; simp only [List.mem_cons, List.not_mem_nil, or_false] at hp; rcases hp with rfl | rfl <;> rfl)) ?_ ?_ ?_ ?_ ?_ ?_ ?_ rfl
  · intro a w Q hM hk
    refine region_last fun K1 QK1 hK1 => ?_
    refine s_val hM (.inl rfl) rfl rfl (ev_move (.inr rfl) rfl) (fun a3 hM2 => ?_)
    clear hM
    refine seg_nil (hK1 _ _ ?_)
    clear hK1 K1 QK1
    have hM4 := hM2.cut2 (t1 := 0) (t2 := 1) rfl rfl
    clear hM2
    exact hk _ hM4
  · intro a w Q hM hk
    refine region_last fun K5 QK5 hK5 => ?_
    refine s_val hM (.inl rfl) rfl rfl (ev_move (.inr rfl) rfl) (fun a7 hM6 => ?_)
    clear hM
    refine seg_nil (hK5 _ _ ?_)
    clear hK5 K5 QK5
    have hM8 := hM6.cut3 (t1 := 5) (t2 := 0) (t3 := 1) rfl rfl rfl
    clear hM6
    exact hk _ hM8
  · intro k a w Q hM hk
    have hd1 : decide ((k : Int) < (n : Int)) = decide (k < n) := by rw [decide_eq_decide]; omega
    have hd2 : decide ((k : Int) < 8) = decide (k < 8) := by rw [decide_eq_decide]; omega
    cases e1 : decide (k < n)
    case false =>
      rw [e1] at hd1 hk
      refine region_last fun K9 QK9 hK9 => ?_
      refine s_val hM (.inl rfl) rfl rfl (ev_move (.inl rfl) rfl) (fun a11 hM10 => ?_)
      clear hM
      refine s_val hM10 (.inl rfl) rfl rfl (ev_move (.inl rfl) rfl) (fun a13 hM12 => ?_)
      clear hM10
      refine s_val hM12 (.inl rfl) rfl rfl (ev_len rfl rfl Try.underlying22) (fun a15 hM14 => ?_)
      clear hM12
      refine s_val hM14 (.inl rfl) rfl rfl (ev_bin rfl rfl rfl g_int (b_lss (b := false) hd1)) (fun a17 hM16 => ?_)
      clear hM14
      refine s_val hM16 (.inl rfl) rfl rfl (ev_move (.inl rfl) rfl) (fun a19 hM18 => ?_)
      clear hM16
      refine s_skip hM18 rfl rfl rfl rfl rfl rfl (fun a21 hM20 => ?_)
      clear hM18
      refine s_skip hM20 rfl rfl rfl rfl rfl rfl (fun a23 hM22 => ?_)
      clear hM20
      refine s_val hM22 (.inl rfl) rfl rfl (ev_pick rfl rfl rfl) (fun a25 hM24 => ?_)
      clear hM22
      refine seg_nil (hK9 _ _ ?_)
      clear hK9 K9 QK9
      exact hk _ (hM24.cut3 (t1 := 5) (t2 := 0) (t3 := 1) rfl rfl rfl) (hM24.ev (t := 21) rfl)
    case true =>
      rw [e1] at hd1 hk
      cases e2 : decide (k < 8)
      case false =>
        rw [e2] at hd2 hk
        refine region_last fun K26 QK26 hK26 => ?_
        refine s_val hM (.inl rfl) rfl rfl (ev_move (.inl rfl) rfl) (fun a28 hM27 => ?_)
        clear hM
        refine s_val hM27 (.inl rfl) rfl rfl (ev_move (.inl rfl) rfl) (fun a30 hM29 => ?_)
        clear hM27
        refine s_val hM29 (.inl rfl) rfl rfl (ev_len rfl rfl Try.underlying22) (fun a32 hM31 => ?_)
        clear hM29
        refine s_val hM31 (.inl rfl) rfl rfl (ev_bin rfl rfl rfl g_int (b_lss (b := true) hd1)) (fun a34 hM33 => ?_)
        clear hM31
        refine s_val hM33 (.inl rfl) rfl rfl (ev_move (.inl rfl) rfl) (fun a36 hM35 => ?_)
        clear hM33
        refine s_val hM35 (.inr ⟨_, _, _, rfl, rfl, rfl⟩) rfl rfl (ev_move (.inl rfl) rfl) (fun a38 hM37 => ?_)
        clear hM35
        refine s_val hM37 (.inr ⟨_, _, _, rfl, rfl, rfl⟩) rfl rfl (ev_bin rfl rfl rfl g_int (b_lss (b := false) hd2)) (fun a40 hM39 => ?_)
        clear hM37
        refine s_val hM39 (.inl rfl) rfl rfl (ev_pick rfl rfl rfl) (fun a42 hM41 => ?_)
        clear hM39
        refine seg_nil (hK26 _ _ ?_)
        clear hK26 K26 QK26
        exact hk _ (hM41.cut3 (t1 := 5) (t2 := 0) (t3 := 1) rfl rfl rfl) (hM41.ev (t := 21) rfl)
      case true =>
        rw [e2] at hd2 hk
        refine region_last fun K43 QK43 hK43 => ?_
        refine s_val hM (.inl rfl) rfl rfl (ev_move (.inl rfl) rfl) (fun a45 hM44 => ?_)
        clear hM
        refine s_val hM44 (.inl rfl) rfl rfl (ev_move (.inl rfl) rfl) (fun a47 hM46 => ?_)
        clear hM44
        refine s_val hM46 (.inl rfl) rfl rfl (ev_len rfl rfl Try.underlying22) (fun a49 hM48 => ?_)
        clear hM46
        refine s_val hM48 (.inl rfl) rfl rfl (ev_bin rfl rfl rfl g_int (b_lss (b := true) hd1)) (fun a51 hM50 => ?_)
        clear hM48
        refine s_val hM50 (.inl rfl) rfl rfl (ev_move (.inl rfl) rfl) (fun a53 hM52 => ?_)
        clear hM50
        refine s_val hM52 (.inr ⟨_, _, _, rfl, rfl, rfl⟩) rfl rfl (ev_move (.inl rfl) rfl) (fun a55 hM54 => ?_)
        clear hM52
        refine s_val hM54 (.inr ⟨_, _, _, rfl, rfl, rfl⟩) rfl rfl (ev_bin rfl rfl rfl g_int (b_lss (b := true) hd2)) (fun a57 hM56 => ?_)
        clear hM54
        refine s_val hM56 (.inl rfl) rfl rfl (ev_pick rfl rfl rfl) (fun a59 hM58 => ?_)
        clear hM56
        refine seg_nil (hK43 _ _ ?_)
        clear hK43 K43 QK43
        exact hk _ (hM58.cut3 (t1 := 5) (t2 := 0) (t3 := 1) rfl rfl rfl) (hM58.ev (t := 21) rfl)
  · intro k a w Q hk8 hM hk
    refine region_last fun K60 QK60 hK60 => ?_
    refine s_val hM (.inl rfl) rfl rfl (ev_move (.inl rfl) rfl) (fun a62 hM61 => ?_)
    clear hM
    refine s_val hM61 (.inl rfl) rfl rfl (ev_bin rfl rfl rfl g_int (b_add (r := ((k + 1 : Nat) : Int)) (by omega) (by omega))) (fun a64 hM63 => ?_)
    clear hM61
    refine s_val hM63 (.inl rfl) rfl rfl (ev_move (.inr rfl) rfl) (fun a66 hM65 => ?_)
    clear hM63
    refine seg_nil (hK60 _ _ ?_)
    clear hK60 K60 QK60
    have hM67 := hM65.cut3 (t1 := 5) (t2 := 0) (t3 := 1) rfl rfl rfl
    clear hM65
    exact hk _ hM67
  · intro k a w1 Q hlt h8 hM HB0 hN hE hR
    obtain ⟨b, off, rfl, hc⟩ := HH.out (by omega)
    obtain ⟨x, v, N, A4, n4, c4, bs, C0, C1, C2, S1, L1, S4, hc4, hm4⟩ := hc k hlt
    obtain ⟨C, HC⟩ : ∃ C : Array Value, Hid (C = msC x v) := ⟨_, rfl⟩
    obtain ⟨PC, HPC⟩ : ∃ C : Array Value, Hid (C = askC x v N (.slice A4 n4 c4)) := ⟨_, rfl⟩
    obtain ⟨ZM, HZM⟩ : ∃ C : Array Value, Hid (C = msC zM zV) := ⟨_, rfl⟩
    obtain ⟨R1, R2⟩ := ask_rng HC.out HPC.out C0 C1 C2
    have HR1 := hide R1
    have HR2 := hide R2
    have HS := hide S1
    have HL := hide L1
    have HZ := hide (MsL.z L1)
    have HX := hide S4
    have HXL := hide S4.blen
    have HX4 := hide (And.intro hc4 hm4)
    clear R1 R2 C0 C1 C2 S1 L1 S4 hc hc4 hm4
    refine region_then fun K68 QK68 hK68 => ?_
    refine s_val hM (.inl rfl) rfl rfl (ev_move (.inl rfl) rfl) (fun a70 hM69 => ?_)
    clear hM
    refine s_val hM69 (.inl rfl) rfl rfl (ev_move (.inl rfl) rfl) (fun a72 hM71 => ?_)
    clear hM69
    refine s_val hM71 (.inl rfl) rfl rfl (ev_idx (b := b) (k := k) (sz := 20) (p := off + k * 20) rfl rfl rfl Try.underlying22 (by kernel_rfl) hlt (by first | rfl | omega)) (fun a74 hM73 => ?_)
    clear hM71
    refine s_val hM73 (.inl rfl) rfl rfl (ev_loadm rfl rfl (HR1.out.below HB0.out) Try.underlying35 rfl (by rw [HPC.out]; exact info_ask)) (fun a76 hM75 => ?_)
    clear hM73
    refine s_new hM75 rfl rfl rfl rfl alloc_ask rfl rfl rfl rfl (by rw [HPC.out]; exact info_ask) (by rw [HPC.out]; rfl) (one_ask HPC.out) (fun g77 a83 w78 hM82 KB81_ hb79 hg80 => ?_)
    have KB81 := hide KB81_
    clear hM75 KB81_
    clear hg80
    have HB84 := hide (below_then HB0.out hb79)
    clear hb79 HB0
    have HB86 : Hid (Below w78.heap.size w78 w78) := Below.refl _ _
    have HRCg77 : Hid (Rng w78 g77 0 C) := ((KB81.out).rng).sub 0 (ask_sub HC.out HPC.out)
    refine seg_nil (hK68 _ _ ?_)
    clear hK68 K68 QK68
    have hM87 := hM82.cut4 (t1 := 5) (t2 := 0) (t3 := 1) (t4 := 6) rfl rfl rfl rfl
    clear hM82
    refine wp_seq_k fun K88 hK88 => ?_
    obtain ⟨q0, HV⟩ : ∃ q, Hid (decide (2000 < msW x v) = q) := ⟨_, rfl⟩
    cases q0
    case true =>
      refine region_then fun K89 QK89 hK89 => ?_
      refine s_val hM87 (.inl rfl) rfl rfl (ev_fldw (m := 0) rfl rfl (fun w => by simp [go_sem])) (fun a91 hM90 => ?_)
      clear hM87
      refine s_val hM90 (.inl rfl) rfl rfl (ev_loadm rfl rfl (HRCg77.out.below HB86.out) Try.underlying32 rfl (by rw [HC.out]; exact Try.infoMsg)) (fun a93 hM92 => ?_)
      clear hM90
      refine s_call hM92 (.inl rfl) rfl rfl (f := 23) (args := #[.agg C]) (ev_call hM92 rfl rfl rfl (fun w => by simp [go_sem]) _) (law7_Heavy x v _ (hide (HS.out.below HB84.out)) HL HC HV) (fun e w94 hp => ?_)
      obtain ⟨rfl, hb95⟩ := hp
      refine ⟨_, rfl, fun a97 hM96 => ?_⟩
      clear hM92
      have HB98 := hide (below_then HB84.out hb95)
      have HB99 := hide (below_then HB86.out hb95)
      clear hb95 HB84 HB86
      refine seg_nil (hK89 _ _ ?_)
      clear hK89 K89 QK89
      have hM100 := hM96.cut5 (t1 := 5) (t2 := 0) (t3 := 1) (t4 := 6) (t5 := 30) rfl rfl rfl rfl rfl
      clear hM96
      refine wp_cond_true (hM100.ev (t := 30) rfl) ?_
      refine region_then fun K101 QK101 hK101 => ?_
      refine s_val hM100 (.inl rfl) rfl rfl (ev_move (.inr rfl) rfl) (fun a103 hM102 => ?_)
      clear hM100
      refine seg_nil (hK101 _ _ ?_)
      clear hK101 K101 QK101
      have hM104 := hM102.cut4 (t1 := 5) (t2 := 0) (t3 := 1) (t4 := 4) rfl rfl rfl rfl
      clear hM102
      refine wp_ret ?_
      exact hR _ _ (hM104.cut1 (t1 := 4) rfl) HB98
    case false =>
      have HK := hide (MsL.light HV.out)
      refine region_then fun K105 QK105 hK105 => ?_
      refine s_val hM87 (.inl rfl) rfl rfl (ev_fldw (m := 0) rfl rfl (fun w => by simp [go_sem])) (fun a107 hM106 => ?_)
      clear hM87
      refine s_val hM106 (.inl rfl) rfl rfl (ev_loadm rfl rfl (HRCg77.out.below HB86.out) Try.underlying32 rfl (by rw [HC.out]; exact Try.infoMsg)) (fun a109 hM108 => ?_)
      clear hM106
      refine s_call hM108 (.inl rfl) rfl rfl (f := 23) (args := #[.agg C]) (ev_call hM108 rfl rfl rfl (fun w => by simp [go_sem]) _) (law7_Heavy x v _ (hide (HS.out.below HB84.out)) HL HC HV) (fun e w110 hp => ?_)
      obtain ⟨rfl, hb111⟩ := hp
      refine ⟨_, rfl, fun a113 hM112 => ?_⟩
      clear hM108
      have HB114 := hide (below_then HB84.out hb111)
      have HB115 := hide (below_then HB86.out hb111)
      clear hb111 HB84 HB86
      refine seg_nil (hK105 _ _ ?_)
      clear hK105 K105 QK105
      have hM116 := hM112.cut5 (t1 := 5) (t2 := 0) (t3 := 1) (t4 := 6) (t5 := 30) rfl rfl rfl rfl rfl
      clear hM112
      refine wp_cond_false (hM116.ev (t := 30) rfl) ?_
      refine wp_skip ?_
      refine hK88 _ _ ?_
      refine wp_seq_k fun K117 hK117 => ?_
      by_cases hkk : x.k = kk
      case neg =>
        have HKK := hide hkk
        clear hkk
        refine region_then fun K118 QK118 hK118 => ?_
        refine s_val hM116 (.inl rfl) rfl rfl (ev_fldw (m := 0) rfl rfl (fun w => by simp [go_sem])) (fun a120 hM119 => ?_)
        clear hM116
        refine s_val hM119 (.inl rfl) rfl rfl (ev_fldw (m := 0) rfl rfl (fun w => by simp [go_sem])) (fun a122 hM121 => ?_)
        clear hM119
        refine s_val hM121 (.inl rfl) rfl rfl (ev_load1 (v := .int .i64 (x.k)) rfl rfl ((HRCg77.out.below HB115.out).at_ (m := 0) (by rw [HC.out]; rfl)) (isAgg_no Try.underlying3 rfl)) (fun a124 hM123 => ?_)
        clear hM121
        refine s_val hM123 (.inl rfl) rfl rfl (ev_move (.inl rfl) rfl) (fun a126 hM125 => ?_)
        clear hM123
        refine s_val hM125 (.inl rfl) rfl rfl (ev_bin rfl rfl rfl g_int (b_neq (b := true) (decide_eq_true HKK.out))) (fun a128 hM127 => ?_)
        clear hM125
        refine seg_nil (hK118 _ _ ?_)
        clear hK118 K118 QK118
        have hM129 := hM127.cut5 (t1 := 5) (t2 := 0) (t3 := 1) (t4 := 6) (t5 := 35) rfl rfl rfl rfl rfl
        clear hM127
        refine wp_cond_true (hM129.ev (t := 35) rfl) ?_
        refine wp_exit ?_
        have hM130 := hM129.cut3 (t1 := 5) (t2 := 0) (t3 := 1) rfl rfl rfl
        clear hM129
        exact hE _ _ hM130 HB114
      case pos =>
        have HKK := hide hkk
        clear hkk
        refine region_then fun K131 QK131 hK131 => ?_
        refine s_val hM116 (.inl rfl) rfl rfl (ev_fldw (m := 0) rfl rfl (fun w => by simp [go_sem])) (fun a133 hM132 => ?_)
        clear hM116
        refine s_val hM132 (.inl rfl) rfl rfl (ev_fldw (m := 0) rfl rfl (fun w => by simp [go_sem])) (fun a135 hM134 => ?_)
        clear hM132
        refine s_val hM134 (.inl rfl) rfl rfl (ev_load1 (v := .int .i64 (x.k)) rfl rfl ((HRCg77.out.below HB115.out).at_ (m := 0) (by rw [HC.out]; rfl)) (isAgg_no Try.underlying3 rfl)) (fun a137 hM136 => ?_)
        clear hM134
        refine s_val hM136 (.inl rfl) rfl rfl (ev_move (.inl rfl) rfl) (fun a139 hM138 => ?_)
        clear hM136
        refine s_val hM138 (.inl rfl) rfl rfl (ev_bin rfl rfl rfl g_int (b_neq (b := false) (by have := HKK.out; simp [this]))) (fun a141 hM140 => ?_)
        clear hM138
        refine seg_nil (hK131 _ _ ?_)
        clear hK131 K131 QK131
        have hM142 := hM140.cut5 (t1 := 5) (t2 := 0) (t3 := 1) (t4 := 6) (t5 := 35) rfl rfl rfl rfl rfl
        clear hM140
        refine wp_cond_false (hM142.ev (t := 35) rfl) ?_
        refine wp_skip ?_
        refine hK117 _ _ ?_
        obtain ⟨q1, HM⟩ : ∃ q, Hid (mayM N x = q) := ⟨_, rfl⟩
        cases q1
        case false =>
          refine region_then fun K143 QK143 hK143 => ?_
          refine s_val hM142 (.inl rfl) rfl rfl (ev_fldw (m := 0) rfl rfl (fun w => by simp [go_sem])) (fun a145 hM144 => ?_)
          clear hM142
          refine s_val hM144 (.inl rfl) rfl rfl (ev_loadm rfl rfl (HRCg77.out.below HB115.out) Try.underlying32 rfl (by rw [HC.out]; exact Try.infoMsg)) (fun a147 hM146 => ?_)
          clear hM144
          refine s_val hM146 (.inl rfl) rfl rfl (ev_fldw (m := 18) rfl rfl (fun w => by simp [go_sem])) (fun a149 hM148 => ?_)
          clear hM146
          refine s_val hM148 (.inl rfl) rfl rfl (ev_load1 (v := .int .i64 N) rfl rfl ((KB81.out.on HB115.out).rng.at_ (m := 18) (by rw [HPC.out]; rfl)) (isAgg_no Try.underlying3 rfl)) (fun a151 hM150 => ?_)
          clear hM148
          refine s_call hM150 (.inl rfl) rfl rfl (f := 21) (args := #[.agg C, .int .i64 N]) (ev_call hM150 rfl rfl rfl (fun w => by simp [go_sem]) _) (ref4_Message N x v _ (hide (HS.out.below HB114.out)) HZ HC HM) (fun e w152 hp => ?_)
          obtain ⟨rfl, hb153⟩ := hp
          refine ⟨_, rfl, fun a155 hM154 => ?_⟩
          clear hM150
          have HB156 := hide (below_then HB114.out hb153)
          have HB157 := hide (below_then HB115.out hb153)
          clear hb153 HB114 HB115
          refine s_val hM154 (.inl rfl) rfl rfl (ev_move (.inr rfl) rfl) (fun a159 hM158 => ?_)
          clear hM154
          refine seg_nil (hK143 _ _ ?_)
          clear hK143 K143 QK143
          have hM160 := hM158.cut5 (t1 := 5) (t2 := 0) (t3 := 1) (t4 := 6) (t5 := 7) rfl rfl rfl rfl rfl
          clear hM158
          refine region_then fun K161 QK161 hK161 => ?_
          refine s_val hM160 (.inl rfl) rfl rfl (ev_fldw (m := 0) rfl rfl (fun w => by simp [go_sem])) (fun a163 hM162 => ?_)
          clear hM160
          refine s_val hM162 (.inl rfl) rfl rfl (ev_loadm rfl rfl (HRCg77.out.below HB157.out) Try.underlying32 rfl (by rw [HC.out]; exact Try.infoMsg)) (fun a165 hM164 => ?_)
          clear hM162
          refine s_val hM164 (.inl rfl) rfl rfl (ev_fldw (m := 18) rfl rfl (fun w => by simp [go_sem])) (fun a167 hM166 => ?_)
          clear hM164
          refine s_val hM166 (.inl rfl) rfl rfl (ev_load1 (v := .int .i64 N) rfl rfl ((KB81.out.on HB157.out).rng.at_ (m := 18) (by rw [HPC.out]; rfl)) (isAgg_no Try.underlying3 rfl)) (fun a169 hM168 => ?_)
          clear hM166
          refine s_call hM168 (.inl rfl) rfl rfl (f := 20) (args := #[.agg C, .int .i64 N]) (ev_call hM168 rfl rfl rfl (fun w => by simp [go_sem]) _) (message_Encode N x v _ (hide (HS.out.below HB156.out)) HZ HC HM) (fun e w170 hp => ?_)
          obtain ⟨v', rfl, ho, hb171⟩ := hp
          obtain ⟨AO, cO, rfl, hO1, hO2⟩ := own_slice_cap ho
          clear ho hO1 hO2
          refine ⟨_, rfl, fun a173 hM172 => ?_⟩
          clear hM168
          have HB174 := hide (below_then HB156.out hb171)
          have HB175 := hide (below_then HB157.out hb171)
          clear hb171 HB156 HB157
          refine s_val hM172 (.inl rfl) rfl rfl (ev_move (.inl rfl) rfl) (fun a177 hM176 => ?_)
          clear hM172
          refine s_val hM176 (.inl rfl) rfl rfl (ev_ext rfl rfl rfl) (fun a179 hM178 => ?_)
          clear hM176
          refine s_val hM178 (.inl rfl) rfl rfl (ev_ext rfl rfl rfl) (fun a181 hM180 => ?_)
          clear hM178
          refine s_val hM180 (.inl rfl) rfl rfl (ev_move (.inr rfl) rfl) (fun a183 hM182 => ?_)
          clear hM180
          refine s_val hM182 (.inl rfl) rfl rfl (ev_move (.inr rfl) rfl) (fun a185 hM184 => ?_)
          clear hM182
          refine seg_nil (hK161 _ _ ?_)
          clear hK161 K161 QK161
          have hM186 := hM184.cut7 (t1 := 5) (t2 := 0) (t3 := 1) (t4 := 6) (t5 := 7) (t6 := 8) (t7 := 9) rfl rfl rfl rfl rfl rfl rfl
          clear hM184
          refine wp_seq_k fun K187 hK187 => ?_
          refine region_then fun K188 QK188 hK188 => ?_
          refine s_val hM186 (.inl rfl) rfl rfl (ev_move (.inl rfl) rfl) (fun a190 hM189 => ?_)
          clear hM186
          refine s_val hM189 (.inl rfl) rfl rfl (ev_move (.inl rfl) rfl) (fun a192 hM191 => ?_)
          clear hM189
          refine s_call hM191 (.inl rfl) rfl rfl (f := 18) (args := #[.int .i64 ((formE false))]) (ev_call hM191 rfl rfl rfl (fun w => by simp [go_sem]) _) (law7_num _ _) (fun e w193 hp => ?_)
          obtain ⟨rfl, rfl⟩ := hp
          refine ⟨_, rfl, fun a196 hM195 => ?_⟩
          clear hM191
          refine s_val hM195 (.inl rfl) rfl rfl (ev_bin rfl rfl rfl g_int (b_eql (b := false) (by decide))) (fun a198 hM197 => ?_)
          clear hM195
          refine s_val hM197 (.inl rfl) rfl rfl (ev_bin rfl rfl rfl g_bool (b_neb Try.underlying4 (b := false) rfl)) (fun a200 hM199 => ?_)
          clear hM197
          refine s_val hM199 (.inl rfl) rfl rfl (ev_move (.inl rfl) rfl) (fun a202 hM201 => ?_)
          clear hM199
          refine s_val hM201 (.inr ⟨_, _, _, rfl, rfl, rfl⟩) rfl rfl (ev_move (.inl rfl) rfl) (fun a204 hM203 => ?_)
          clear hM201
          refine s_val hM203 (.inr ⟨_, _, _, rfl, rfl, rfl⟩) rfl rfl (ev_fldw (m := 0) rfl rfl (fun w => by simp [go_sem])) (fun a206 hM205 => ?_)
          clear hM203
          refine s_val hM205 (.inr ⟨_, _, _, rfl, rfl, rfl⟩) rfl rfl (ev_loadm rfl rfl (HRCg77.out.below HB175.out) Try.underlying32 rfl (by rw [HC.out]; exact Try.infoMsg)) (fun a208 hM207 => ?_)
          clear hM205
          refine s_val hM207 (.inr ⟨_, _, _, rfl, rfl, rfl⟩) rfl rfl (ev_fldw (m := 18) rfl rfl (fun w => by simp [go_sem])) (fun a210 hM209 => ?_)
          clear hM207
          refine s_val hM209 (.inr ⟨_, _, _, rfl, rfl, rfl⟩) rfl rfl (ev_load1 (v := .int .i64 N) rfl rfl ((KB81.out.on HB175.out).rng.at_ (m := 18) (by rw [HPC.out]; rfl)) (isAgg_no Try.underlying3 rfl)) (fun a212 hM211 => ?_)
          clear hM209
          refine s_call hM211 (.inr ⟨_, _, _, rfl, rfl, rfl⟩) rfl rfl (f := 25) (args := #[.agg C, .int .i64 N]) (ev_call hM211 rfl rfl rfl (fun w => by simp [go_sem]) _) (message_Check N x v _ (hide (HS.out.below HB174.out)) HZ HC HM) (fun e w213 hp => ?_)
          obtain ⟨rfl, hb214⟩ := hp
          refine ⟨_, rfl, fun a216 hM215 => ?_⟩
          clear hM211
          have HB217 := hide (below_then HB174.out hb214)
          have HB218 := hide (below_then HB175.out hb214)
          clear hb214 HB174 HB175
          refine s_call hM215 (.inr ⟨_, _, _, rfl, rfl, rfl⟩) rfl rfl (f := 18) (args := #[.int .i64 ((formE false))]) (ev_call hM215 rfl rfl rfl (fun w => by simp [go_sem]) _) (law7_num _ _) (fun e w219 hp => ?_)
          obtain ⟨rfl, rfl⟩ := hp
          refine ⟨_, rfl, fun a222 hM221 => ?_⟩
          clear hM215
          refine s_val hM221 (.inr ⟨_, _, _, rfl, rfl, rfl⟩) rfl rfl (ev_bin rfl rfl rfl g_int (b_eql (b := false) (by decide))) (fun a224 hM223 => ?_)
          clear hM221
          refine s_val hM223 (.inr ⟨_, _, _, rfl, rfl, rfl⟩) rfl rfl (ev_bin rfl rfl rfl g_bool (b_neb Try.underlying4 (b := false) rfl)) (fun a226 hM225 => ?_)
          clear hM223
          refine s_val hM225 (.inl rfl) rfl rfl (ev_pick rfl rfl rfl) (fun a228 hM227 => ?_)
          clear hM225
          refine seg_nil (hK188 _ _ ?_)
          clear hK188 K188 QK188
          have hM229 := hM227.cut7 (t1 := 5) (t2 := 0) (t3 := 1) (t4 := 6) (t5 := 7) (t6 := 8) (t7 := 64) rfl rfl rfl rfl rfl rfl rfl
          clear hM227
          refine wp_cond_false (hM229.ev (t := 64) rfl) ?_
          refine wp_skip ?_
          refine hK187 _ _ ?_
          refine wp_seq_k fun K230 hK230 => ?_
          refine region_then fun K231 QK231 hK231 => ?_
          refine s_val hM229 (.inl rfl) rfl rfl (ev_move (.inl rfl) rfl) (fun a233 hM232 => ?_)
          clear hM229
          refine s_val hM232 (.inl rfl) rfl rfl (ev_not rfl rfl rfl) (fun a235 hM234 => ?_)
          clear hM232
          refine seg_nil (hK231 _ _ ?_)
          clear hK231 K231 QK231
          have hM236 := hM234.cut6 (t1 := 5) (t2 := 0) (t3 := 1) (t4 := 6) (t5 := 8) (t6 := 66) rfl rfl rfl rfl rfl rfl
          clear hM234
          refine wp_cond_true (hM236.ev (t := 66) rfl) ?_
          refine wp_exit ?_
          have hM237 := hM236.cut3 (t1 := 5) (t2 := 0) (t3 := 1) rfl rfl rfl
          clear hM236
          exact hE _ _ hM237 HB217
        case true =>
          obtain ⟨L, HLn⟩ : ∃ L, Hid ((msgB x).length = L) := ⟨_, rfl⟩
          have HDE := hide (decM_there HM.out)
          have HSM := hide (small_of_may HM.out)
          refine region_then fun K238 QK238 hK238 => ?_
          refine s_val hM142 (.inl rfl) rfl rfl (ev_fldw (m := 0) rfl rfl (fun w => by simp [go_sem])) (fun a240 hM239 => ?_)
          clear hM142
          refine s_val hM239 (.inl rfl) rfl rfl (ev_loadm rfl rfl (HRCg77.out.below HB115.out) Try.underlying32 rfl (by rw [HC.out]; exact Try.infoMsg)) (fun a242 hM241 => ?_)
          clear hM239
          refine s_val hM241 (.inl rfl) rfl rfl (ev_fldw (m := 18) rfl rfl (fun w => by simp [go_sem])) (fun a244 hM243 => ?_)
          clear hM241
          refine s_val hM243 (.inl rfl) rfl rfl (ev_load1 (v := .int .i64 N) rfl rfl ((KB81.out.on HB115.out).rng.at_ (m := 18) (by rw [HPC.out]; rfl)) (isAgg_no Try.underlying3 rfl)) (fun a246 hM245 => ?_)
          clear hM243
          refine s_call hM245 (.inl rfl) rfl rfl (f := 21) (args := #[.agg C, .int .i64 N]) (ev_call hM245 rfl rfl rfl (fun w => by simp [go_sem]) _) (ref4_Message N x v _ (hide (HS.out.below HB114.out)) HZ HC HM) (fun e w247 hp => ?_)
          obtain ⟨rfl, hb248⟩ := hp
          refine ⟨_, rfl, fun a250 hM249 => ?_⟩
          clear hM245
          have HB251 := hide (below_then HB114.out hb248)
          have HB252 := hide (below_then HB115.out hb248)
          clear hb248 HB114 HB115
          refine s_val hM249 (.inl rfl) rfl rfl (ev_move (.inr rfl) rfl) (fun a254 hM253 => ?_)
          clear hM249
          refine seg_nil (hK238 _ _ ?_)
          clear hK238 K238 QK238
          have hM255 := hM253.cut5 (t1 := 5) (t2 := 0) (t3 := 1) (t4 := 6) (t5 := 7) rfl rfl rfl rfl rfl
          clear hM253
          refine region_then fun K256 QK256 hK256 => ?_
          refine s_val hM255 (.inl rfl) rfl rfl (ev_fldw (m := 0) rfl rfl (fun w => by simp [go_sem])) (fun a258 hM257 => ?_)
          clear hM255
          refine s_val hM257 (.inl rfl) rfl rfl (ev_loadm rfl rfl (HRCg77.out.below HB252.out) Try.underlying32 rfl (by rw [HC.out]; exact Try.infoMsg)) (fun a260 hM259 => ?_)
          clear hM257
          refine s_val hM259 (.inl rfl) rfl rfl (ev_fldw (m := 18) rfl rfl (fun w => by simp [go_sem])) (fun a262 hM261 => ?_)
          clear hM259
          refine s_val hM261 (.inl rfl) rfl rfl (ev_load1 (v := .int .i64 N) rfl rfl ((KB81.out.on HB252.out).rng.at_ (m := 18) (by rw [HPC.out]; rfl)) (isAgg_no Try.underlying3 rfl)) (fun a264 hM263 => ?_)
          clear hM261
          refine s_call hM263 (.inl rfl) rfl rfl (f := 20) (args := #[.agg C, .int .i64 N]) (ev_call hM263 rfl rfl rfl (fun w => by simp [go_sem]) _) (message_Encode N x v _ (hide (HS.out.below HB251.out)) HZ HC HM) (fun e w265 hp => ?_)
          obtain ⟨v', rfl, ho, hb266⟩ := hp
          simp only [if_true] at ho
          rw [HLn.out] at ho
          obtain ⟨AO, cO, rfl, hO1, hO2⟩ := own_slice_cap ho
          unfold maxLen at hO2
          have HO := hide (Sl.of_own ho)
          have HOC : Hid (L ≤ cO ∧ cO ≤ 9223372036854775807) := ⟨hO1, by omega⟩
          clear ho hO1 hO2
          refine ⟨_, rfl, fun a268 hM267 => ?_⟩
          clear hM263
          have HB269 := hide (below_then HB251.out hb266)
          have HB270 := hide (below_then HB252.out hb266)
          clear hb266 HB251 HB252
          have HB272 : Hid (Below w265.heap.size w265 w265) := Below.refl _ _
          refine s_val hM267 (.inl rfl) rfl rfl (ev_move (.inl rfl) rfl) (fun a274 hM273 => ?_)
          clear hM267
          refine s_val hM273 (.inl rfl) rfl rfl (ev_ext rfl rfl rfl) (fun a276 hM275 => ?_)
          clear hM273
          refine s_val hM275 (.inl rfl) rfl rfl (ev_ext rfl rfl rfl) (fun a278 hM277 => ?_)
          clear hM275
          refine s_val hM277 (.inl rfl) rfl rfl (ev_move (.inr rfl) rfl) (fun a280 hM279 => ?_)
          clear hM277
          refine s_val hM279 (.inl rfl) rfl rfl (ev_move (.inr rfl) rfl) (fun a282 hM281 => ?_)
          clear hM279
          refine seg_nil (hK256 _ _ ?_)
          clear hK256 K256 QK256
          have hM283 := hM281.cut7 (t1 := 5) (t2 := 0) (t3 := 1) (t4 := 6) (t5 := 7) (t6 := 8) (t7 := 9) rfl rfl rfl rfl rfl rfl rfl
          clear hM281
          refine wp_seq_k fun K284 hK284 => ?_
          refine region_then fun K285 QK285 hK285 => ?_
          refine s_val hM283 (.inl rfl) rfl rfl (ev_move (.inl rfl) rfl) (fun a287 hM286 => ?_)
          clear hM283
          refine s_val hM286 (.inl rfl) rfl rfl (ev_move (.inl rfl) rfl) (fun a289 hM288 => ?_)
          clear hM286
          refine s_call hM288 (.inl rfl) rfl rfl (f := 18) (args := #[.int .i64 ((formE true))]) (ev_call hM288 rfl rfl rfl (fun w => by simp [go_sem]) _) (law7_num _ _) (fun e w290 hp => ?_)
          obtain ⟨rfl, rfl⟩ := hp
          refine ⟨_, rfl, fun a293 hM292 => ?_⟩
          clear hM288
          refine s_val hM292 (.inl rfl) rfl rfl (ev_bin rfl rfl rfl g_int (b_eql (b := true) (by decide))) (fun a295 hM294 => ?_)
          clear hM292
          refine s_val hM294 (.inl rfl) rfl rfl (ev_bin rfl rfl rfl g_bool (b_neb Try.underlying4 (b := false) rfl)) (fun a297 hM296 => ?_)
          clear hM294
          refine s_val hM296 (.inl rfl) rfl rfl (ev_move (.inl rfl) rfl) (fun a299 hM298 => ?_)
          clear hM296
          refine s_val hM298 (.inr ⟨_, _, _, rfl, rfl, rfl⟩) rfl rfl (ev_move (.inl rfl) rfl) (fun a301 hM300 => ?_)
          clear hM298
          refine s_val hM300 (.inr ⟨_, _, _, rfl, rfl, rfl⟩) rfl rfl (ev_fldw (m := 0) rfl rfl (fun w => by simp [go_sem])) (fun a303 hM302 => ?_)
          clear hM300
          refine s_val hM302 (.inr ⟨_, _, _, rfl, rfl, rfl⟩) rfl rfl (ev_loadm rfl rfl (HRCg77.out.below HB270.out) Try.underlying32 rfl (by rw [HC.out]; exact Try.infoMsg)) (fun a305 hM304 => ?_)
          clear hM302
          refine s_val hM304 (.inr ⟨_, _, _, rfl, rfl, rfl⟩) rfl rfl (ev_fldw (m := 18) rfl rfl (fun w => by simp [go_sem])) (fun a307 hM306 => ?_)
          clear hM304
          refine s_val hM306 (.inr ⟨_, _, _, rfl, rfl, rfl⟩) rfl rfl (ev_load1 (v := .int .i64 N) rfl rfl ((KB81.out.on HB270.out).rng.at_ (m := 18) (by rw [HPC.out]; rfl)) (isAgg_no Try.underlying3 rfl)) (fun a309 hM308 => ?_)
          clear hM306
          refine s_call hM308 (.inr ⟨_, _, _, rfl, rfl, rfl⟩) rfl rfl (f := 25) (args := #[.agg C, .int .i64 N]) (ev_call hM308 rfl rfl rfl (fun w => by simp [go_sem]) _) (message_Check N x v _ (hide (HS.out.below HB269.out)) HZ HC HM) (fun e w310 hp => ?_)
          obtain ⟨rfl, hb311⟩ := hp
          refine ⟨_, rfl, fun a313 hM312 => ?_⟩
          clear hM308
          have HB314 := hide (below_then HB269.out hb311)
          have HB315 := hide (below_then HB270.out hb311)
          have HB316 := hide (below_then HB272.out hb311)
          clear hb311 HB269 HB270 HB272
          refine s_call hM312 (.inr ⟨_, _, _, rfl, rfl, rfl⟩) rfl rfl (f := 18) (args := #[.int .i64 ((formE true))]) (ev_call hM312 rfl rfl rfl (fun w => by simp [go_sem]) _) (law7_num _ _) (fun e w317 hp => ?_)
          obtain ⟨rfl, rfl⟩ := hp
          refine ⟨_, rfl, fun a320 hM319 => ?_⟩
          clear hM312
          refine s_val hM319 (.inr ⟨_, _, _, rfl, rfl, rfl⟩) rfl rfl (ev_bin rfl rfl rfl g_int (b_eql (b := true) (by decide))) (fun a322 hM321 => ?_)
          clear hM319
          refine s_val hM321 (.inr ⟨_, _, _, rfl, rfl, rfl⟩) rfl rfl (ev_bin rfl rfl rfl g_bool (b_neb Try.underlying4 (b := false) rfl)) (fun a324 hM323 => ?_)
          clear hM321
          refine s_val hM323 (.inl rfl) rfl rfl (ev_pick rfl rfl rfl) (fun a326 hM325 => ?_)
          clear hM323
          refine seg_nil (hK285 _ _ ?_)
          clear hK285 K285 QK285
          have hM327 := hM325.cut7 (t1 := 5) (t2 := 0) (t3 := 1) (t4 := 6) (t5 := 7) (t6 := 8) (t7 := 64) rfl rfl rfl rfl rfl rfl rfl
          clear hM325
          refine wp_cond_false (hM327.ev (t := 64) rfl) ?_
          refine wp_skip ?_
          refine hK284 _ _ ?_
          refine wp_seq_k fun K328 hK328 => ?_
          refine region_then fun K329 QK329 hK329 => ?_
          refine s_val hM327 (.inl rfl) rfl rfl (ev_move (.inl rfl) rfl) (fun a331 hM330 => ?_)
          clear hM327
          refine s_val hM330 (.inl rfl) rfl rfl (ev_not rfl rfl rfl) (fun a333 hM332 => ?_)
          clear hM330
          refine seg_nil (hK329 _ _ ?_)
          clear hK329 K329 QK329
          have hM334 := hM332.cut6 (t1 := 5) (t2 := 0) (t3 := 1) (t4 := 6) (t5 := 8) (t6 := 66) rfl rfl rfl rfl rfl rfl
          clear hM332
          refine wp_cond_false (hM334.ev (t := 66) rfl) ?_
          refine wp_skip ?_
          refine hK328 _ _ ?_
          refine region_then fun K335 QK335 hK335 => ?_
          refine s_val hM334 (.inl rfl) rfl rfl (ev_move (.inl rfl) rfl) (fun a337 hM336 => ?_)
          clear hM334
          refine s_val hM336 (.inl rfl) rfl rfl (ev_fldw (m := 18) rfl rfl (fun w => by simp [go_sem])) (fun a339 hM338 => ?_)
          clear hM336
          refine s_val hM338 (.inl rfl) rfl rfl (ev_load1 (v := .int .i64 N) rfl rfl ((KB81.out.on HB315.out).rng.at_ (m := 18) (by rw [HPC.out]; rfl)) (isAgg_no Try.underlying3 rfl)) (fun a341 hM340 => ?_)
          clear hM338
          refine s_call hM340 (.inl rfl) rfl rfl (f := 16) (args := #[.slice AO L cO, .int .i64 N]) (ev_call hM340 rfl rfl rfl (fun w => by simp [go_sem]) _) (message_Decode N _ (HO.out.below HB316.out) HOC.out.1 HOC.out.2 HDE) (fun e w342 hp => ?_)
          obtain ⟨D, u, rfl, hD, hb343⟩ := hp
          have HD : Hid (D = msC x u) := hD.out.1
          have HSD : Hid (MsS w342 x u) := hD.out.2.1
          have HZD : Hid (MsZ x u) := hD.out.2.2
          clear hD
          refine ⟨_, rfl, fun a345 hM344 => ?_⟩
          clear hM340
          have HB346 := hide (below_then HB314.out hb343)
          have HB347 := hide (below_then HB315.out hb343)
          have HB348 := hide (below_then HB316.out hb343)
          clear hb343 HB314 HB315 HB316
          have HB350 : Hid (Below w342.heap.size w342 w342) := Below.refl _ _
          refine s_val hM344 (.inl rfl) rfl rfl (ev_move (.inl rfl) rfl) (fun a352 hM351 => ?_)
          clear hM344
          refine s_val hM351 (.inl rfl) rfl rfl (ev_ext rfl rfl rfl) (fun a354 hM353 => ?_)
          clear hM351
          refine s_val hM353 (.inl rfl) rfl rfl (ev_ext rfl rfl rfl) (fun a356 hM355 => ?_)
          clear hM353
          refine s_new hM355 rfl rfl rfl rfl alloc_msg rfl rfl rfl rfl (by rw [HD.out]; exact Try.infoMsg) (by rw [HD.out]; rfl) (one_msg HD.out) (fun g357 a363 w358 hM362 KB361_ hb359 hg360 => ?_)
          have KB361 := hide KB361_
          clear hM355 KB361_
          clear hg360
          have HB364 := hide (below_then HB346.out hb359)
          have HB365 := hide (below_then HB347.out hb359)
          have HB366 := hide (below_then HB348.out hb359)
          have HB367 := hide (below_then HB350.out hb359)
          clear hb359 HB346 HB347 HB348 HB350
          have HB369 : Hid (Below w358.heap.size w358 w358) := Below.refl _ _
          refine s_val hM362 (.inl rfl) rfl rfl (ev_move (.inr rfl) rfl) (fun a371 hM370 => ?_)
          clear hM362
          refine seg_nil (hK335 _ _ ?_)
          clear hK335 K335 QK335
          have hM372 := hM370.cut6 (t1 := 5) (t2 := 0) (t3 := 1) (t4 := 6) (t5 := 10) (t6 := 11) rfl rfl rfl rfl rfl rfl
          clear hM370
          refine wp_seq_k fun K373 hK373 => ?_
          refine region_then fun K374 QK374 hK374 => ?_
          refine s_val hM372 (.inl rfl) rfl rfl (ev_move (.inl rfl) rfl) (fun a376 hM375 => ?_)
          clear hM372
          refine s_call hM375 (.inl rfl) rfl rfl (f := 18) (args := #[.int .i64 0]) (ev_call hM375 rfl rfl rfl (fun w => by simp [go_sem]) _) (law7_num _ _) (fun e w377 hp => ?_)
          obtain ⟨rfl, rfl⟩ := hp
          refine ⟨_, rfl, fun a380 hM379 => ?_⟩
          clear hM375
          refine s_val hM379 (.inl rfl) rfl rfl (ev_bin rfl rfl rfl g_int (b_neq (b := false) (by decide))) (fun a382 hM381 => ?_)
          clear hM379
          refine s_val hM381 (.inl rfl) rfl rfl (ev_move (.inl rfl) rfl) (fun a384 hM383 => ?_)
          clear hM381
          refine s_val hM383 (.inr ⟨_, _, _, rfl, rfl, rfl⟩) rfl rfl (ev_loadm rfl rfl (KB361.out.on HB369.out).rng Try.underlying32 rfl (by rw [HD.out]; exact Try.infoMsg)) (fun a386 hM385 => ?_)
          clear hM383
          refine s_val hM385 (.inr ⟨_, _, _, rfl, rfl, rfl⟩) rfl rfl (ev_fldw (m := 0) rfl rfl (fun w => by simp [go_sem])) (fun a388 hM387 => ?_)
          clear hM385
          refine s_val hM387 (.inr ⟨_, _, _, rfl, rfl, rfl⟩) rfl rfl (ev_loadm rfl rfl (HRCg77.out.below HB365.out) Try.underlying32 rfl (by rw [HC.out]; exact Try.infoMsg)) (fun a390 hM389 => ?_)
          clear hM387
          refine s_call hM389 (.inr ⟨_, _, _, rfl, rfl, rfl⟩) rfl rfl (f := 19) (args := #[.agg D, .agg C]) (ev_call hM389 rfl rfl rfl (fun w => by simp [go_sem]) _) (ref0_EqMessage x x u v _ (hide (HSD.out.below HB367.out)) HZD (hide (HS.out.below HB364.out)) HZ HD HC (r := true) (by simp [Hid])) (fun e w391 hp => ?_)
          obtain ⟨rfl, hb392⟩ := hp
          refine ⟨_, rfl, fun a394 hM393 => ?_⟩
          clear hM389
          have HB395 := hide (below_then HB364.out hb392)
          have HB396 := hide (below_then HB365.out hb392)
          have HB397 := hide (below_then HB366.out hb392)
          have HB398 := hide (below_then HB367.out hb392)
          have HB399 := hide (below_then HB369.out hb392)
          clear hb392 HB364 HB365 HB366 HB367 HB369
          refine s_val hM393 (.inr ⟨_, _, _, rfl, rfl, rfl⟩) rfl rfl (ev_not rfl rfl rfl) (fun a401 hM400 => ?_)
          clear hM393
          refine s_val hM400 (.inl rfl) rfl rfl (ev_pick rfl rfl rfl) (fun a403 hM402 => ?_)
          clear hM400
          refine seg_nil (hK374 _ _ ?_)
          clear hK374 K374 QK374
          have hM404 := hM402.cut6 (t1 := 5) (t2 := 0) (t3 := 1) (t4 := 6) (t5 := 10) (t6 := 83) rfl rfl rfl rfl rfl rfl
          clear hM402
          refine wp_cond_false (hM404.ev (t := 83) rfl) ?_
          refine wp_skip ?_
          refine hK373 _ _ ?_
          have hM405 := hM404.cut5 (t1 := 5) (t2 := 0) (t3 := 1) (t4 := 6) (t5 := 10) rfl rfl rfl rfl rfl
          clear hM404
          have HKD := hide (MsS.k2 (HS.out.below HB395.out) (HSD.out.below HB398.out) HK.out)
          refine h_open_cut 10 rfl (fun a' w' => ∃ (E1 E2 E3 E4 : Array Value) (u1 u2 u3 u4 : MsV) (wb : World) (g B0 : Nat), Frm a' 154 [(5, .int .i64 ((k : Int))), (0, .slice ((some ⟨b, off, none⟩)) n c), (1, .int .i64 kk), (6, .pointer (some ⟨g77, 0, none⟩)), (12, .slice (some ⟨g, 0, none⟩) 4 4)] ∧ Hid (Four x B0 wb E1 E2 E3 E4 u1 u2 u3 u4) ∧ Hid (Blk w' g 32 (E1 ++ E2 ++ E3 ++ E4)) ∧ Hid (wb.heap.size ≤ g) ∧ Hid (B0 ≤ wb.heap.size) ∧ Hid (w.heap.size ≤ B0) ∧ Hid (w78.heap.size ≤ B0) ∧ Hid (Below wb.heap.size wb w') ∧ Hid (Below w.heap.size w w') ∧ Hid (Below w78.heap.size w78 w')) (by kernel_rfl) (fun w406 hb407 => ?_) (fun a' w' hT => ?_)
          · skip
            have HB408 := hide (below_then HB395.out hb407)
            have HB409 := hide (below_then HB396.out hb407)
            have HB410 := hide (below_then HB397.out hb407)
            have HB411 := hide (below_then HB398.out hb407)
            have HB412 := hide (below_then HB399.out hb407)
            clear hb407 HB395 HB396 HB397 HB398 HB399
            have hS413 : Below w406.heap.size w406 w406 := Below.refl _ _
            refine h_val 0 rfl (by kernel_rfl) (by kernel_rfl) (by kernel_rfl) hM405 (.inl rfl) rfl rfl hS413 (fun w' hr => (ev_loadm rfl rfl ((KB361.out.on HB412.out).on hr).rng Try.underlying32 rfl (by rw [HD.out]; exact Try.infoMsg))) (fun a415 hM414 => ?_)
            clear hM405
            refine h_val 2 rfl (by kernel_rfl) (by kernel_rfl) (by kernel_rfl) hM414 (.inl rfl) rfl rfl hS413 (fun w' hr => (ev_loadm rfl rfl ((KB361.out.on HB412.out).on hr).rng Try.underlying32 rfl (by rw [HD.out]; exact Try.infoMsg))) (fun a417 hM416 => ?_)
            clear hM414
            refine h_val 4 rfl (by kernel_rfl) (by kernel_rfl) (by kernel_rfl) hM416 (.inl rfl) rfl rfl hS413 (fun w' hr => (ev_loadm rfl rfl ((KB361.out.on HB412.out).on hr).rng Try.underlying32 rfl (by rw [HD.out]; exact Try.infoMsg))) (fun a419 hM418 => ?_)
            clear hM416
            refine h_val 6 rfl (by kernel_rfl) (by kernel_rfl) (by kernel_rfl) hM418 (.inl rfl) rfl rfl hS413 (fun w' hr => (ev_loadm rfl rfl ((KB361.out.on HB412.out).on hr).rng Try.underlying32 rfl (by rw [HD.out]; exact Try.infoMsg))) (fun a421 hM420 => ?_)
            clear hM418
            refine h_call 1 rfl (by kernel_rfl) hM420 (.inl rfl) rfl rfl (f := 24) (args := #[.agg D]) (ev_call hM420 rfl rfl rfl (fun w => by simp [go_sem]) _) (copy_msg2 (hide (HSD.out.below HB411.out)) HKD HZD HD) (fun e w422 hp => ?_)
            obtain ⟨E1, u1, rfl, HE1, HCF1, hb423⟩ := hp
            have hS426 := s_in hS413 hb423
            refine ⟨_, rfl, fun a425 hM424 => ⟨hS426, ?_⟩⟩
            have P427 : Below w422.heap.size w422 w422 := Below.refl _ _
            clear hM420
            have HB428 := hide (below_then HB408.out hb423)
            have HB429 := hide (below_then HB409.out hb423)
            have HB430 := hide (below_then HB410.out hb423)
            have HB431 := hide (below_then HB411.out hb423)
            have HB432 := hide (below_then HB412.out hb423)
            clear hb423
            refine h_call 3 rfl (by kernel_rfl) hM424 (.inl rfl) rfl rfl (f := 24) (args := #[.agg D]) (ev_call hM424 rfl rfl rfl (fun w => by simp [go_sem]) _) (copy_msg2 (hide (HSD.out.below HB431.out)) HKD HZD HD) (fun e w433 hp => ?_)
            obtain ⟨E2, u2, rfl, HE2, HCF2, hb434⟩ := hp
            have hS437 := s_in hS426 hb434
            refine ⟨_, rfl, fun a436 hM435 => ⟨hS437, ?_⟩⟩
            have P438 := below_then P427 hb434
            have P439 : Below w433.heap.size w433 w433 := Below.refl _ _
            clear hM424
            have HB440 := hide (below_then HB428.out hb434)
            have HB441 := hide (below_then HB429.out hb434)
            have HB442 := hide (below_then HB430.out hb434)
            have HB443 := hide (below_then HB431.out hb434)
            have HB444 := hide (below_then HB432.out hb434)
            clear hb434 HB428 HB429 HB430 HB431 HB432
            refine h_call 5 rfl (by kernel_rfl) hM435 (.inl rfl) rfl rfl (f := 24) (args := #[.agg D]) (ev_call hM435 rfl rfl rfl (fun w => by simp [go_sem]) _) (copy_msg2 (hide (HSD.out.below HB443.out)) HKD HZD HD) (fun e w445 hp => ?_)
            obtain ⟨E3, u3, rfl, HE3, HCF3, hb446⟩ := hp
            have hS449 := s_in hS437 hb446
            refine ⟨_, rfl, fun a448 hM447 => ⟨hS449, ?_⟩⟩
            have P450 := below_then P438 hb446
            have P451 := below_then P439 hb446
            have P452 : Below w445.heap.size w445 w445 := Below.refl _ _
            clear hM435
            have HB453 := hide (below_then HB440.out hb446)
            have HB454 := hide (below_then HB441.out hb446)
            have HB455 := hide (below_then HB442.out hb446)
            have HB456 := hide (below_then HB443.out hb446)
            have HB457 := hide (below_then HB444.out hb446)
            clear hb446 HB440 HB441 HB442 HB443 HB444
            refine h_call 7 rfl (by kernel_rfl) hM447 (.inl rfl) rfl rfl (f := 24) (args := #[.agg D]) (ev_call hM447 rfl rfl rfl (fun w => by simp [go_sem]) _) (copy_msg2 (hide (HSD.out.below HB456.out)) HKD HZD HD) (fun e w458 hp => ?_)
            obtain ⟨E4, u4, rfl, HE4, HCF4, hb459⟩ := hp
            have hS462 := s_in hS449 hb459
            refine ⟨_, rfl, fun a461 hM460 => ⟨hS462, ?_⟩⟩
            have P463 := below_then P450 hb459
            have P464 := below_then P451 hb459
            have P465 := below_then P452 hb459
            have P466 : Below w458.heap.size w458 w458 := Below.refl _ _
            clear hM447
            have HB467 := hide (below_then HB453.out hb459)
            have HB468 := hide (below_then HB454.out hb459)
            have HB469 := hide (below_then HB455.out hb459)
            have HB470 := hide (below_then HB456.out hb459)
            have HB471 := hide (below_then HB457.out hb459)
            clear hb459 HB453 HB454 HB455 HB456 HB457
            have HFo := Four.mk_ (B := w406.heap.size) HE1.out HE2.out HE3.out HE4.out HCF1.out HCF2.out HCF3.out HCF4.out P463 P464 P465 P466 hS413.size hS426.size hS437.size hS449.size (Or.inr P450.size) (Or.inr P451.size) (Or.inr P452.size)
            have hlow := hS462.size
            refine h_alloc 8 rfl (by kernel_rfl) hM460 (.inl rfl) rfl rfl (V := fun g => .slice (some ⟨g, 0, none⟩) 4 4) (ev_build4 hM460 rfl rfl rfl rfl rfl HE1.out HE2.out HE3.out HE4.out _ (build4 _ HE1.out HE2.out HE3.out HE4.out)) (fun g a476 w472 hM475 KG hb473 hg474 => ⟨s_in hS462 hb473, ?_⟩)
            have hS9 := s_in hS462 hb473
            have hbw := hb473
            clear hM460
            have HB477 := hide (below_then HB467.out hb473)
            have HB478 := hide (below_then HB468.out hb473)
            have HB479 := hide (below_then HB469.out hb473)
            have HB480 := hide (below_then HB470.out hb473)
            have HB481 := hide (below_then HB471.out hb473)
            clear hb473 HB467 HB468 HB469 HB470 HB471
            refine h_val 9 rfl (by kernel_rfl) (by kernel_rfl) (by kernel_rfl) hM475 (.inl rfl) rfl rfl hS9 (fun w' hr => (ev_move (.inr rfl) rfl)) (fun a483 hM482 => ?_)
            clear hM475
            have hM484 := hM482.cut5 (t1 := 5) (t2 := 0) (t3 := 1) (t4 := 6) (t5 := 12) rfl rfl rfl rfl rfl
            clear hM482
            refine h_nil (by kernel_rfl) ⟨E1, E2, E3, E4, u1, u2, u3, u4, w458, g, w406.heap.size, hM484, HFo, KG, hg474, hlow, HB408.out.size, HB409.out.size, hbw, HB477, HB478⟩
          · skip
            obtain ⟨E1, E2, E3, E4, u1, u2, u3, u4, wb, g, B0, hM9, HF, KG, hgw, hB0, lo0, lo1, HBF, HB0_, HBP_⟩ := hT
            clear hM405 HB395 HB396 HB397 HB398 HB399
            have lg0 := hide (Nat.le_trans lo0.out (Nat.le_trans hB0.out hgw.out))
            have lg1 := hide (Nat.le_trans lo1.out (Nat.le_trans hB0.out hgw.out))
            have HB486 : Hid (Below w'.heap.size w' w') := Below.refl _ _
            refine region_then fun K487 QK487 hK487 => ?_
            refine s_val hM9 (.inl rfl) rfl rfl (ev_move (.inl rfl) rfl) (fun a489 hM488 => ?_)
            clear hM9
            refine s_val hM488 (.inl rfl) rfl rfl (ev_idx (b := g) (k := 0) (sz := 18) (p := 0) rfl rfl rfl Try.underlying78 (by kernel_rfl) (by decide) (by first | rfl | omega)) (fun a491 hM490 => ?_)
            clear hM488
            refine s_val hM490 (.inl rfl) rfl rfl (ev_fldw (m := 4) rfl rfl (fun w => by simp [go_sem])) (fun a493 hM492 => ?_)
            clear hM490
            refine s_val hM492 (.inl rfl) rfl rfl (ev_fldw (m := 5) rfl rfl (fun w => by simp [go_sem])) (fun a495 hM494 => ?_)
            clear hM492
            refine s_val hM494 (.inl rfl) rfl rfl (ev_load1 (v := .int .i64 (x.b.n)) rfl rfl ((KG.out.on HB486.out).rng.at_ (m := 5) (by rw [HF.out.e1, HF.out.e2, HF.out.e3, HF.out.e4]; kernel_rfl)) (isAgg_no Try.underlying3 rfl)) (fun a497 hM496 => ?_)
            clear hM494
            refine s_val hM496 (.inl rfl) rfl rfl (ev_bin rfl rfl rfl g_int (b_add (r := (x.b.n + 1)) rfl (by have := HSM.out.1; omega))) (fun a499 hM498 => ?_)
            clear hM496
            refine s_val hM498 (.inl rfl) rfl rfl (ev_idx (b := g) (k := 0) (sz := 18) (p := 0) rfl rfl rfl Try.underlying78 (by kernel_rfl) (by decide) (by first | rfl | omega)) (fun a501 hM500 => ?_)
            clear hM498
            refine s_val hM500 (.inl rfl) rfl rfl (ev_fldw (m := 4) rfl rfl (fun w => by simp [go_sem])) (fun a503 hM502 => ?_)
            clear hM500
            refine s_val hM502 (.inl rfl) rfl rfl (ev_fldw (m := 5) rfl rfl (fun w => by simp [go_sem])) (fun a505 hM504 => ?_)
            clear hM502
            refine s_put hM504 rfl rfl rfl rfl rfl (KG.out.on HB486.out) (by rw [HF.out.e1, HF.out.e2, HF.out.e3, HF.out.e4, four_size]; exact (by decide : 5 < 72)) (st_int Try.underlying3 (by kernel_rfl)) (fun w506 KB507_ hg508 => ?_)
            have KB507 : Hid (Blk w506 g 32 (msC (x0_ x) u1 ++ msC x u2 ++ msC x u3 ++ msC x u4)) := by have h := KB507_; rw [HF.out.e1, HF.out.e2, HF.out.e3, HF.out.e4, put_0] at h; exact h
            clear KB507_
            have HB509 := hide (below_of_grown HB0_.out hg508 HB0_.out.size lg0.out)
            have HB510 := hide (below_of_grown HBP_.out hg508 HBP_.out.size lg1.out)
            have HB511 := hide (below_of_grown HBF.out hg508 HBF.out.size hgw.out)
            clear HB0_ HBP_ HBF HB486 hg508
            have HB513 : Hid (Below w506.heap.size w506 w506) := Below.refl _ _
            refine seg_nil (hK487 _ _ ?_)
            clear hK487 K487 QK487
            have hM514 := hM504.cut5 (t1 := 5) (t2 := 0) (t3 := 1) (t4 := 6) (t5 := 12) rfl rfl rfl rfl rfl
            clear hM504
            refine region_then fun K515 QK515 hK515 => ?_
            refine s_val hM514 (.inl rfl) rfl rfl (ev_move (.inl rfl) rfl) (fun a517 hM516 => ?_)
            clear hM514
            refine s_val hM516 (.inl rfl) rfl rfl (ev_idx (b := g) (k := 1) (sz := 18) (p := 18) rfl rfl rfl Try.underlying78 (by kernel_rfl) (by decide) (by first | rfl | omega)) (fun a519 hM518 => ?_)
            clear hM516
            refine s_val hM518 (.inl rfl) rfl rfl (ev_fldw (m := 25) rfl rfl (fun w => by simp [go_sem])) (fun a521 hM520 => ?_)
            clear hM518
            refine s_val hM520 (.inl rfl) rfl rfl (ev_fldw (m := 25) rfl rfl (fun w => by simp [go_sem])) (fun a523 hM522 => ?_)
            clear hM520
            refine s_val hM522 (.inl rfl) rfl rfl (ev_load1 (v := .int .i64 (x.h.a)) rfl rfl ((KB507.out.on HB513.out).rng.at_ (m := 25) (by kernel_rfl)) (isAgg_no Try.underlying3 rfl)) (fun a525 hM524 => ?_)
            clear hM522
            refine s_val hM524 (.inl rfl) rfl rfl (ev_bin rfl rfl rfl g_int (b_add (r := (x.h.a + 1)) rfl (by have := HSM.out.2.1; omega))) (fun a527 hM526 => ?_)
            clear hM524
            refine s_val hM526 (.inl rfl) rfl rfl (ev_idx (b := g) (k := 1) (sz := 18) (p := 18) rfl rfl rfl Try.underlying78 (by kernel_rfl) (by decide) (by first | rfl | omega)) (fun a529 hM528 => ?_)
            clear hM526
            refine s_val hM528 (.inl rfl) rfl rfl (ev_fldw (m := 25) rfl rfl (fun w => by simp [go_sem])) (fun a531 hM530 => ?_)
            clear hM528
            refine s_val hM530 (.inl rfl) rfl rfl (ev_fldw (m := 25) rfl rfl (fun w => by simp [go_sem])) (fun a533 hM532 => ?_)
            clear hM530
            refine s_put hM532 rfl rfl rfl rfl rfl (KB507.out.on HB513.out) (by rw [four_size]; exact (by decide : 25 < 72)) (st_int Try.underlying3 (by kernel_rfl)) (fun w534 KB535_ hg536 => ?_)
            have KB535 : Hid (Blk w534 g 32 (msC (x0_ x) u1 ++ msC (x1_ x) u2 ++ msC x u3 ++ msC x u4)) := by have h := KB535_; rw [put_1] at h; exact h
            clear KB535_
            have HB537 := hide (below_of_grown HB509.out hg536 HB509.out.size lg0.out)
            have HB538 := hide (below_of_grown HB510.out hg536 HB510.out.size lg1.out)
            have HB539 := hide (below_of_grown HB511.out hg536 HB511.out.size hgw.out)
            clear HB509 HB510 HB511 HB513 hg536
            have HB541 : Hid (Below w534.heap.size w534 w534) := Below.refl _ _
            refine seg_nil (hK515 _ _ ?_)
            clear hK515 K515 QK515
            have hM542 := hM532.cut5 (t1 := 5) (t2 := 0) (t3 := 1) (t4 := 6) (t5 := 12) rfl rfl rfl rfl rfl
            clear hM532
            refine region_then fun K543 QK543 hK543 => ?_
            refine s_val hM542 (.inl rfl) rfl rfl (ev_move (.inl rfl) rfl) (fun a545 hM544 => ?_)
            clear hM542
            refine s_val hM544 (.inl rfl) rfl rfl (ev_move (.inl rfl) rfl) (fun a547 hM546 => ?_)
            clear hM544
            refine s_val hM546 (.inl rfl) rfl rfl (ev_idx (b := g) (k := 2) (sz := 18) (p := 36) rfl rfl rfl Try.underlying78 (by kernel_rfl) (by decide) (by first | rfl | omega)) (fun a549 hM548 => ?_)
            clear hM546
            refine s_val hM548 (.inl rfl) rfl rfl (ev_fldw (m := 47) rfl rfl (fun w => by simp [go_sem])) (fun a551 hM550 => ?_)
            clear hM548
            refine s_val hM550 (.inl rfl) rfl rfl (ev_fldw (m := 51) rfl rfl (fun w => by simp [go_sem])) (fun a553 hM552 => ?_)
            clear hM550
            refine s_val hM552 (.inl rfl) rfl rfl (ev_load1 (v := .int .i64 (x.c.d)) rfl rfl ((KB535.out.on HB541.out).rng.at_ (m := 51) (by kernel_rfl)) (isAgg_no Try.underlying3 rfl)) (fun a555 hM554 => ?_)
            clear hM552
            refine s_val hM554 (.inl rfl) rfl rfl (ev_bin rfl rfl rfl g_int (b_add (r := (x.c.d + 1)) rfl (by have := HSM.out.2.2.1; omega))) (fun a557 hM556 => ?_)
            clear hM554
            refine s_val hM556 (.inl rfl) rfl rfl (ev_idx (b := g) (k := 2) (sz := 18) (p := 36) rfl rfl rfl Try.underlying78 (by kernel_rfl) (by decide) (by first | rfl | omega)) (fun a559 hM558 => ?_)
            clear hM556
            refine s_val hM558 (.inl rfl) rfl rfl (ev_fldw (m := 47) rfl rfl (fun w => by simp [go_sem])) (fun a561 hM560 => ?_)
            clear hM558
            refine s_val hM560 (.inl rfl) rfl rfl (ev_fldw (m := 51) rfl rfl (fun w => by simp [go_sem])) (fun a563 hM562 => ?_)
            clear hM560
            refine s_put hM562 rfl rfl rfl rfl rfl (KB535.out.on HB541.out) (by rw [four_size]; exact (by decide : 51 < 72)) (st_int Try.underlying3 (by kernel_rfl)) (fun w564 KB565_ hg566 => ?_)
            have KB565 : Hid (Blk w564 g 32 (msC (x0_ x) u1 ++ msC (x1_ x) u2 ++ msC (x2_ x) u3 ++ msC x u4)) := by have h := KB565_; rw [put_2] at h; exact h
            clear KB565_
            have HB567 := hide (below_of_grown HB537.out hg566 HB537.out.size lg0.out)
            have HB568 := hide (below_of_grown HB538.out hg566 HB538.out.size lg1.out)
            have HB569 := hide (below_of_grown HB539.out hg566 HB539.out.size hgw.out)
            clear HB537 HB538 HB539 HB541 hg566
            have HB571 : Hid (Below w564.heap.size w564 w564) := Below.refl _ _
            refine seg_nil (hK543 _ _ ?_)
            clear hK543 K543 QK543
            have hM572 := hM562.cut5 (t1 := 5) (t2 := 0) (t3 := 1) (t4 := 6) (t5 := 12) rfl rfl rfl rfl rfl
            clear hM562
            refine region_then fun K573 QK573 hK573 => ?_
            refine s_val hM572 (.inl rfl) rfl rfl (ev_move (.inl rfl) rfl) (fun a575 hM574 => ?_)
            clear hM572
            refine s_val hM574 (.inl rfl) rfl rfl (ev_move (.inl rfl) rfl) (fun a577 hM576 => ?_)
            clear hM574
            refine s_val hM576 (.inl rfl) rfl rfl (ev_idx (b := g) (k := 3) (sz := 18) (p := 54) rfl rfl rfl Try.underlying78 (by kernel_rfl) (by decide) (by first | rfl | omega)) (fun a579 hM578 => ?_)
            clear hM576
            refine s_val hM578 (.inl rfl) rfl rfl (ev_fldw (m := 71) rfl rfl (fun w => by simp [go_sem])) (fun a581 hM580 => ?_)
            clear hM578
            refine s_val hM580 (.inl rfl) rfl rfl (ev_load1 (v := u4.ds.v) rfl rfl ((KB565.out.on HB571.out).rng.at_ (m := 71) (by kernel_rfl)) (isAgg_no Try.underlying26 rfl)) (fun a583 hM582 => ?_)
            clear hM580
            refine s_alloc hM582 (.inl rfl) rfl rfl (V := fun g => .slice (some ⟨g, 0, none⟩) 1 1) (ev_bslice1 hM582 rfl bslice_int) (fun g5 a585 w586 hM584 K5_ hb587 hg5 => ?_)
            have K5 := hide K5_
            clear hM582 K5_ hg5
            have HB588 := hide (below_then HB567.out hb587)
            have HB589 := hide (below_then HB568.out hb587)
            have HB590 := hide (below_then HB569.out hb587)
            have HB591 := hide (below_then HB571.out hb587)
            clear hb587 HB567 HB568 HB569 HB571
            have HB593 : Hid (Below w586.heap.size w586 w586) := Below.refl _ _
            have HFn := (HF.out.below HB590.out)
            have HKG := (KB565.out.on HB591.out)
            have hdn : Hid (u4.ds.n ≤ 16) := by have h := HFn.o4.ds.1; rw [ints_len] at h; have := HSM.out.2.2.2; rw [Hid]; omega
            obtain ⟨i0, hi, hz0, hz1, hz2⟩ := info_parts Try.infoInt
            refine s_append hM584 (.inl rfl) rfl rfl rfl B0 3 i0 (.int .i64 0) 1 8 Try.underlying26 hi hz0 hz1 hz2 rfl (by decide) u4.ds.n (ints x.s) rfl HFn.o4.ds ⟨g5, 0, none⟩ 1 1 [.int .i64 0] rfl rfl (news_blk K5.out) (one_int _ _) (by have := hdn.out; unfold maxLen; omega) (by have := hdn.out; omega) (by have h1 := hB0.out; have h2 := HB590.out.size; omega) (fun v3 a595 w596 hM594 ho hgr hat => ?_)
            obtain ⟨A3, c3, rfl⟩ := own_slice ho
            have HFE := hide (Four.grow HFn hgr ho (by have := hdn.out; omega))
            have KG2 : Hid (Blk w596 g 32 (msC (x0_ x) u1 ++ msC (x1_ x) u2 ++ msC (x2_ x) u3 ++ msC x u4)) := HKG.grown hgr (Ne.symm (own_blk_ne HFn.o4.ds HKG (by decide)))
            have HB597 := hide (HB588.out.grown hgr HB588.out.size (fun q hq => Nat.le_trans lo0.out (HFn.o4.ds.lt q hq).1))
            have HB598 := hide (HB589.out.grown hgr HB589.out.size (fun q hq => Nat.le_trans lo1.out (HFn.o4.ds.lt q hq).1))
            clear HFn HKG hat hgr ho hM584 HB588 HB589 HB590 HB591 HB593
            have HB600 : Hid (Below w596.heap.size w596 w596) := Below.refl _ _
            refine s_val hM594 (.inl rfl) rfl rfl (ev_idx (b := g) (k := 3) (sz := 18) (p := 54) rfl rfl rfl Try.underlying78 (by kernel_rfl) (by decide) (by first | rfl | omega)) (fun a602 hM601 => ?_)
            clear hM594
            refine s_val hM601 (.inl rfl) rfl rfl (ev_fldw (m := 71) rfl rfl (fun w => by simp [go_sem])) (fun a604 hM603 => ?_)
            clear hM601
            refine s_put hM603 rfl rfl rfl rfl rfl (KG2.out.on HB600.out) (by rw [four_size]; exact (by decide : 71 < 72)) (st_slice Try.underlying26 (by kernel_rfl)) (fun w605 KB606_ hg607 => ?_)
            have HFE2 := hide (FourE.put (HFE.out.below HB600.out) (KG2.out.on HB600.out) hg607)
            have KB606 : Hid (Blk w605 g 32 (msC (x0_ x) u1 ++ msC (x1_ x) u2 ++ msC (x2_ x) u3 ++ msC (x3_ x) (u3_ u4 A3 (u4.ds.n + 1) c3))) := by have h := KB606_; rw [put_3] at h; exact h
            clear KB606_
            have HB608 := hide (below_of_grown HB597.out hg607 HB597.out.size lg0.out)
            have HB609 := hide (below_of_grown HB598.out hg607 HB598.out.size lg1.out)
            clear HB597 HB598 HB600 hg607
            have HB611 : Hid (Below w605.heap.size w605 w605) := Below.refl _ _
            clear HFE
            have HFE := HFE2
            clear HFE2
            have HSU := four_sub (A := msC (x0_ x) u1) (B := msC (x1_ x) u2) (C := msC (x2_ x) u3) (D := msC (x3_ x) (u3_ u4 A3 (u4.ds.n + 1) c3)) rfl rfl rfl
            have HRg0 : Hid (Rng w605 g 0 (msC (x0_ x) u1)) := ((KB606.out.on HB611.out).rng).sub 0 HSU.1
            obtain ⟨r0, HR0_⟩ : ∃ r, Hid (mayM N (x0_ x) = r) := ⟨_, rfl⟩
            have HRg1 : Hid (Rng w605 g 18 (msC (x1_ x) u2)) := ((KB606.out.on HB611.out).rng).sub 18 HSU.2.1
            obtain ⟨r1, HR1_⟩ : ∃ r, Hid (mayM N (x1_ x) = r) := ⟨_, rfl⟩
            have HRg2 : Hid (Rng w605 g 36 (msC (x2_ x) u3)) := ((KB606.out.on HB611.out).rng).sub 36 HSU.2.2.1
            obtain ⟨r2, HR2_⟩ : ∃ r, Hid (mayM N (x2_ x) = r) := ⟨_, rfl⟩
            have HRg3 : Hid (Rng w605 g 54 (msC (x3_ x) (u3_ u4 A3 (u4.ds.n + 1) c3))) := ((KB606.out.on HB611.out).rng).sub 54 HSU.2.2.2
            obtain ⟨r3, HR3_⟩ : ∃ r, Hid (mayM N (x3_ x) = r) := ⟨_, rfl⟩
            clear HSU
            refine seg_nil (hK573 _ _ ?_)
            clear hK573 K573 QK573
            have hM612 := hM603.cut5 (t1 := 5) (t2 := 0) (t3 := 1) (t4 := 6) (t5 := 12) rfl rfl rfl rfl rfl
            clear hM603
            refine region_then fun K613 QK613 hK613 => ?_
            refine s_val hM612 (.inl rfl) rfl rfl (ev_move (.inr rfl) rfl) (fun a615 hM614 => ?_)
            clear hM612
            refine seg_nil (hK613 _ _ ?_)
            clear hK613 K613 QK613
            have hM616 := hM614.cut6 (t1 := 5) (t2 := 0) (t3 := 1) (t4 := 6) (t5 := 12) (t6 := 13) rfl rfl rfl rfl rfl rfl
            clear hM614
            have hM617 := hM616.cut6 (t1 := 13) (t2 := 5) (t3 := 0) (t4 := 1) (t5 := 6) (t6 := 12) rfl rfl rfl rfl rfl rfl
            clear hM616
            refine wp_block ?_
            refine wp_loop_ghost (fun m a w' => ∃ j : Nat, m = 4 - j ∧ Frm a 154 [(13, .int .i64 (j : Int)), (5, .int .i64 ((k : Int))), (0, .slice ((some ⟨b, off, none⟩)) n c), (1, .int .i64 kk), (6, .pointer (some ⟨g77, 0, none⟩)), (12, .slice ((some ⟨g, 0, none⟩)) 4 4)] ∧ Hid (Below w.heap.size w w') ∧ Hid (Below w78.heap.size w78 w') ∧ Hid (Below w605.heap.size w605 w')) 4 ⟨0, by omega, hM617, HB608, HB609, HB611⟩ ?_
            clear HB608 HB609 HB611 hM617
            rintro m624 a619 w618 ⟨j, rfl, hM620, HB621, HB622, HB623⟩
            refine wp_seq_k fun K625 hK625 => ?_
            by_cases hjl : j < 4
            case neg =>
              refine region_then fun K626 QK626 hK626 => ?_
              refine s_val hM620 (.inl rfl) rfl rfl (ev_move (.inl rfl) rfl) (fun a628 hM627 => ?_)
              clear hM620
              refine s_val hM627 (.inl rfl) rfl rfl (ev_move (.inl rfl) rfl) (fun a630 hM629 => ?_)
              clear hM627
              refine s_val hM629 (.inl rfl) rfl rfl (ev_len rfl rfl Try.underlying78) (fun a632 hM631 => ?_)
              clear hM629
              refine s_val hM631 (.inl rfl) rfl rfl (ev_bin rfl rfl rfl g_int (b_lss (b := false) (by rw [decide_eq_false_iff_not]; omega))) (fun a634 hM633 => ?_)
              clear hM631
              refine seg_nil (hK626 _ _ ?_)
              clear hK626 K626 QK626
              have hM635 := hM633.cut7 (t1 := 5) (t2 := 0) (t3 := 1) (t4 := 6) (t5 := 12) (t6 := 13) (t7 := 133) rfl rfl rfl rfl rfl rfl rfl
              clear hM633
              refine wp_cond_false (hM635.ev (t := 133) rfl) ?_
              refine wp_exit ?_
              repeat (with_reducible refine th_e ?_)
              refine inb_e ?_
              have hM636 := hM635.cut3 (t1 := 5) (t2 := 0) (t3 := 1) rfl rfl rfl
              clear hM635
              exact hN _ _ hM636 HB621
            case pos =>
              obtain rfl | rfl | rfl | rfl : j = 0 ∨ j = 1 ∨ j = 2 ∨ j = 3 := by omega
              · skip
                refine region_then fun K637 QK637 hK637 => ?_
                refine s_val hM620 (.inl rfl) rfl rfl (ev_move (.inl rfl) rfl) (fun a639 hM638 => ?_)
                clear hM620
                refine s_val hM638 (.inl rfl) rfl rfl (ev_move (.inl rfl) rfl) (fun a641 hM640 => ?_)
                clear hM638
                refine s_val hM640 (.inl rfl) rfl rfl (ev_len rfl rfl Try.underlying78) (fun a643 hM642 => ?_)
                clear hM640
                refine s_val hM642 (.inl rfl) rfl rfl (ev_bin rfl rfl rfl g_int (b_lss (b := true) (by decide))) (fun a645 hM644 => ?_)
                clear hM642
                refine seg_nil (hK637 _ _ ?_)
                clear hK637 K637 QK637
                have hM646 := hM644.cut7 (t1 := 5) (t2 := 0) (t3 := 1) (t4 := 6) (t5 := 12) (t6 := 13) (t7 := 133) rfl rfl rfl rfl rfl rfl rfl
                clear hM644
                refine wp_cond_true (hM646.ev (t := 133) rfl) ?_
                refine wp_skip ?_
                refine hK625 _ _ ?_
                refine wp_seq_k fun K647 hK647 => ?_
                refine wp_block ?_
                refine q_open (by kernel_rfl) (by kernel_rfl) fun K648 hK648 => ?_
                refine q_val hM646 (.inl rfl) rfl rfl (fun m => (ev_move (.inl rfl) rfl)) (fun a650 hM649 => ?_)
                clear hM646
                refine q_val hM649 (.inl rfl) rfl rfl (fun m => (ev_move (.inl rfl) rfl)) (fun a652 hM651 => ?_)
                clear hM649
                refine q_val hM651 (.inl rfl) rfl rfl (fun m => (ev_idx (b := g) (k := 0) (sz := 18) (p := 0) rfl rfl rfl Try.underlying78 (by kernel_rfl) (by decide) (by first | rfl | omega))) (fun a654 hM653 => ?_)
                clear hM651
                refine q_val hM653 (.inl rfl) rfl rfl (fun m => (ev_loadm rfl rfl ((HRg0.out.below HB623.out).below (Wd.below m)) Try.underlying32 rfl (by kernel_rfl))) (fun a656 hM655 => ?_)
                clear hM653
                refine q_val hM655 (.inl rfl) rfl rfl (fun m => (ev_fldw (m := 18) rfl rfl (fun w => by simp [go_sem]))) (fun a658 hM657 => ?_)
                clear hM655
                refine q_val hM657 (.inl rfl) rfl rfl (fun m => (ev_load1 (v := .int .i64 N) rfl rfl (((KB81.out.on HB622.out).on (Wd.below m)).rng.at_ (m := 18) (by rw [HPC.out]; rfl)) (isAgg_no Try.underlying3 rfl))) (fun a660 hM659 => ?_)
                clear hM657
                refine q_call hM659 (.inl rfl) rfl rfl (f := 25) (args := #[.agg ((msC (x0_ x) u1)), .int .i64 N]) (v := .int .i64 ((formE r0))) (ev_call hM659 rfl rfl rfl (fun w => by simp [go_sem])) (fun m => wd_call (message_Check N (x0_ x) u1 _ (hide (((HFE.out.below HB623.out).below (Wd.below m))).s0) (hide HFE.out.t0) (hide rfl) HR0_)) (fun a662 hM661 => ?_)
                clear hM659
                refine q_call hM661 (.inl rfl) rfl rfl (f := 18) (args := #[.int .i64 ((formE r0))]) (v := .int .i64 ((formE r0))) (ev_call hM661 rfl rfl rfl (fun w => by simp [go_sem])) (fun m => wd_same (law7_num _ _)) (fun a664 hM663 => ?_)
                clear hM661
                refine q_val hM663 (.inl rfl) rfl rfl (fun m => (ev_bin rfl rfl rfl g_int (b_eql (b := r0) (by cases r0 <;> decide)))) (fun a666 hM665 => ?_)
                clear hM663
                refine q_val hM665 (.inl rfl) rfl rfl (fun m => (ev_move (.inl rfl) rfl)) (fun a668 hM667 => ?_)
                clear hM665
                refine q_val hM667 (.inl rfl) rfl rfl (fun m => (ev_move (.inl rfl) rfl)) (fun a670 hM669 => ?_)
                clear hM667
                refine q_val hM669 (.inl rfl) rfl rfl (fun m => (ev_idx (b := g) (k := 0) (sz := 18) (p := 0) rfl rfl rfl Try.underlying78 (by kernel_rfl) (by decide) (by first | rfl | omega))) (fun a672 hM671 => ?_)
                clear hM669
                refine q_val hM671 (.inl rfl) rfl rfl (fun m => (ev_loadm rfl rfl ((HRg0.out.below HB623.out).below (Wd.below m)) Try.underlying32 rfl (by kernel_rfl))) (fun a674 hM673 => ?_)
                clear hM671
                refine q_val hM673 (.inl rfl) rfl rfl (fun m => (ev_fldw (m := 18) rfl rfl (fun w => by simp [go_sem]))) (fun a676 hM675 => ?_)
                clear hM673
                refine q_val hM675 (.inl rfl) rfl rfl (fun m => (ev_load1 (v := .int .i64 N) rfl rfl (((KB81.out.on HB622.out).on (Wd.below m)).rng.at_ (m := 18) (by rw [HPC.out]; rfl)) (isAgg_no Try.underlying3 rfl))) (fun a678 hM677 => ?_)
                clear hM675
                refine q_call hM677 (.inl rfl) rfl rfl (f := 21) (args := #[.agg ((msC (x0_ x) u1)), .int .i64 N]) (v := .bool r0) (ev_call hM677 rfl rfl rfl (fun w => by simp [go_sem])) (fun m => wd_call (ref4_Message N (x0_ x) u1 _ (hide (((HFE.out.below HB623.out).below (Wd.below m))).s0) (hide HFE.out.t0) (hide rfl) HR0_)) (fun a680 hM679 => ?_)
                clear hM677
                refine q_val hM679 (.inl rfl) rfl rfl (fun m => (ev_bin rfl rfl rfl g_bool (b_neb Try.underlying4 (b := false) (by simp)))) (fun a682 hM681 => ?_)
                clear hM679
                refine wpQuiet_nil (hK648 _ fun w683 hb684 => ?_)
                clear hK648 K648
                have HB685 := hide (below_then HB621.out hb684)
                have HB686 := hide (below_then HB622.out hb684)
                have HB687 := hide (below_then HB623.out hb684)
                clear hb684 HB621 HB622 HB623
                have hM688 := hM681.cut7 (t1 := 5) (t2 := 0) (t3 := 1) (t4 := 6) (t5 := 12) (t6 := 13) (t7 := 152) rfl rfl rfl rfl rfl rfl rfl
                clear hM681
                refine wp_cond_false (hM688.ev (t := 152) rfl) ?_
                refine wp_skip ?_
                refine inb_n ?_
                refine hK647 _ _ ?_
                refine region_last fun K689 QK689 hK689 => ?_
                refine s_val hM688 (.inl rfl) rfl rfl (ev_move (.inl rfl) rfl) (fun a691 hM690 => ?_)
                clear hM688
                refine s_val hM690 (.inl rfl) rfl rfl (ev_bin rfl rfl rfl g_int (b_add (r := ((0 + 1 : Nat) : Int)) (by decide) (by decide))) (fun a693 hM692 => ?_)
                clear hM690
                refine s_val hM692 (.inl rfl) rfl rfl (ev_move (.inr rfl) rfl) (fun a695 hM694 => ?_)
                clear hM692
                refine seg_nil (hK689 _ _ ?_)
                clear hK689 K689 QK689
                have hM696 := hM694.cut6 (t1 := 5) (t2 := 0) (t3 := 1) (t4 := 6) (t5 := 12) (t6 := 13) rfl rfl rfl rfl rfl rfl
                clear hM694
                have hM697 := hM696.cut6 (t1 := 13) (t2 := 5) (t3 := 0) (t4 := 1) (t5 := 6) (t6 := 12) rfl rfl rfl rfl rfl rfl
                clear hM696
                exact ⟨4 - (0 + 1), by omega, 0 + 1, rfl, hM697, HB685, HB686, HB687⟩
              · skip
                refine region_then fun K698 QK698 hK698 => ?_
                refine s_val hM620 (.inl rfl) rfl rfl (ev_move (.inl rfl) rfl) (fun a700 hM699 => ?_)
                clear hM620
                refine s_val hM699 (.inl rfl) rfl rfl (ev_move (.inl rfl) rfl) (fun a702 hM701 => ?_)
                clear hM699
                refine s_val hM701 (.inl rfl) rfl rfl (ev_len rfl rfl Try.underlying78) (fun a704 hM703 => ?_)
                clear hM701
                refine s_val hM703 (.inl rfl) rfl rfl (ev_bin rfl rfl rfl g_int (b_lss (b := true) (by decide))) (fun a706 hM705 => ?_)
                clear hM703
                refine seg_nil (hK698 _ _ ?_)
                clear hK698 K698 QK698
                have hM707 := hM705.cut7 (t1 := 5) (t2 := 0) (t3 := 1) (t4 := 6) (t5 := 12) (t6 := 13) (t7 := 133) rfl rfl rfl rfl rfl rfl rfl
                clear hM705
                refine wp_cond_true (hM707.ev (t := 133) rfl) ?_
                refine wp_skip ?_
                refine hK625 _ _ ?_
                refine wp_seq_k fun K708 hK708 => ?_
                refine wp_block ?_
                refine q_open (by kernel_rfl) (by kernel_rfl) fun K709 hK709 => ?_
                refine q_val hM707 (.inl rfl) rfl rfl (fun m => (ev_move (.inl rfl) rfl)) (fun a711 hM710 => ?_)
                clear hM707
                refine q_val hM710 (.inl rfl) rfl rfl (fun m => (ev_move (.inl rfl) rfl)) (fun a713 hM712 => ?_)
                clear hM710
                refine q_val hM712 (.inl rfl) rfl rfl (fun m => (ev_idx (b := g) (k := 1) (sz := 18) (p := 18) rfl rfl rfl Try.underlying78 (by kernel_rfl) (by decide) (by first | rfl | omega))) (fun a715 hM714 => ?_)
                clear hM712
                refine q_val hM714 (.inl rfl) rfl rfl (fun m => (ev_loadm rfl rfl ((HRg1.out.below HB623.out).below (Wd.below m)) Try.underlying32 rfl (by kernel_rfl))) (fun a717 hM716 => ?_)
                clear hM714
                refine q_val hM716 (.inl rfl) rfl rfl (fun m => (ev_fldw (m := 18) rfl rfl (fun w => by simp [go_sem]))) (fun a719 hM718 => ?_)
                clear hM716
                refine q_val hM718 (.inl rfl) rfl rfl (fun m => (ev_load1 (v := .int .i64 N) rfl rfl (((KB81.out.on HB622.out).on (Wd.below m)).rng.at_ (m := 18) (by rw [HPC.out]; rfl)) (isAgg_no Try.underlying3 rfl))) (fun a721 hM720 => ?_)
                clear hM718
                refine q_call hM720 (.inl rfl) rfl rfl (f := 25) (args := #[.agg ((msC (x1_ x) u2)), .int .i64 N]) (v := .int .i64 ((formE r1))) (ev_call hM720 rfl rfl rfl (fun w => by simp [go_sem])) (fun m => wd_call (message_Check N (x1_ x) u2 _ (hide (((HFE.out.below HB623.out).below (Wd.below m))).s1) (hide HFE.out.t1) (hide rfl) HR1_)) (fun a723 hM722 => ?_)
                clear hM720
                refine q_call hM722 (.inl rfl) rfl rfl (f := 18) (args := #[.int .i64 ((formE r1))]) (v := .int .i64 ((formE r1))) (ev_call hM722 rfl rfl rfl (fun w => by simp [go_sem])) (fun m => wd_same (law7_num _ _)) (fun a725 hM724 => ?_)
                clear hM722
                refine q_val hM724 (.inl rfl) rfl rfl (fun m => (ev_bin rfl rfl rfl g_int (b_eql (b := r1) (by cases r1 <;> decide)))) (fun a727 hM726 => ?_)
                clear hM724
                refine q_val hM726 (.inl rfl) rfl rfl (fun m => (ev_move (.inl rfl) rfl)) (fun a729 hM728 => ?_)
                clear hM726
                refine q_val hM728 (.inl rfl) rfl rfl (fun m => (ev_move (.inl rfl) rfl)) (fun a731 hM730 => ?_)
                clear hM728
                refine q_val hM730 (.inl rfl) rfl rfl (fun m => (ev_idx (b := g) (k := 1) (sz := 18) (p := 18) rfl rfl rfl Try.underlying78 (by kernel_rfl) (by decide) (by first | rfl | omega))) (fun a733 hM732 => ?_)
                clear hM730
                refine q_val hM732 (.inl rfl) rfl rfl (fun m => (ev_loadm rfl rfl ((HRg1.out.below HB623.out).below (Wd.below m)) Try.underlying32 rfl (by kernel_rfl))) (fun a735 hM734 => ?_)
                clear hM732
                refine q_val hM734 (.inl rfl) rfl rfl (fun m => (ev_fldw (m := 18) rfl rfl (fun w => by simp [go_sem]))) (fun a737 hM736 => ?_)
                clear hM734
                refine q_val hM736 (.inl rfl) rfl rfl (fun m => (ev_load1 (v := .int .i64 N) rfl rfl (((KB81.out.on HB622.out).on (Wd.below m)).rng.at_ (m := 18) (by rw [HPC.out]; rfl)) (isAgg_no Try.underlying3 rfl))) (fun a739 hM738 => ?_)
                clear hM736
                refine q_call hM738 (.inl rfl) rfl rfl (f := 21) (args := #[.agg ((msC (x1_ x) u2)), .int .i64 N]) (v := .bool r1) (ev_call hM738 rfl rfl rfl (fun w => by simp [go_sem])) (fun m => wd_call (ref4_Message N (x1_ x) u2 _ (hide (((HFE.out.below HB623.out).below (Wd.below m))).s1) (hide HFE.out.t1) (hide rfl) HR1_)) (fun a741 hM740 => ?_)
                clear hM738
                refine q_val hM740 (.inl rfl) rfl rfl (fun m => (ev_bin rfl rfl rfl g_bool (b_neb Try.underlying4 (b := false) (by simp)))) (fun a743 hM742 => ?_)
                clear hM740
                refine wpQuiet_nil (hK709 _ fun w744 hb745 => ?_)
                clear hK709 K709
                have HB746 := hide (below_then HB621.out hb745)
                have HB747 := hide (below_then HB622.out hb745)
                have HB748 := hide (below_then HB623.out hb745)
                clear hb745 HB621 HB622 HB623
                have hM749 := hM742.cut7 (t1 := 5) (t2 := 0) (t3 := 1) (t4 := 6) (t5 := 12) (t6 := 13) (t7 := 152) rfl rfl rfl rfl rfl rfl rfl
                clear hM742
                refine wp_cond_false (hM749.ev (t := 152) rfl) ?_
                refine wp_skip ?_
                refine inb_n ?_
                refine hK708 _ _ ?_
                refine region_last fun K750 QK750 hK750 => ?_
                refine s_val hM749 (.inl rfl) rfl rfl (ev_move (.inl rfl) rfl) (fun a752 hM751 => ?_)
                clear hM749
                refine s_val hM751 (.inl rfl) rfl rfl (ev_bin rfl rfl rfl g_int (b_add (r := ((1 + 1 : Nat) : Int)) (by decide) (by decide))) (fun a754 hM753 => ?_)
                clear hM751
                refine s_val hM753 (.inl rfl) rfl rfl (ev_move (.inr rfl) rfl) (fun a756 hM755 => ?_)
                clear hM753
                refine seg_nil (hK750 _ _ ?_)
                clear hK750 K750 QK750
                have hM757 := hM755.cut6 (t1 := 5) (t2 := 0) (t3 := 1) (t4 := 6) (t5 := 12) (t6 := 13) rfl rfl rfl rfl rfl rfl
                clear hM755
                have hM758 := hM757.cut6 (t1 := 13) (t2 := 5) (t3 := 0) (t4 := 1) (t5 := 6) (t6 := 12) rfl rfl rfl rfl rfl rfl
                clear hM757
                exact ⟨4 - (1 + 1), by omega, 1 + 1, rfl, hM758, HB746, HB747, HB748⟩
              · skip
                refine region_then fun K759 QK759 hK759 => ?_
                refine s_val hM620 (.inl rfl) rfl rfl (ev_move (.inl rfl) rfl) (fun a761 hM760 => ?_)
                clear hM620
                refine s_val hM760 (.inl rfl) rfl rfl (ev_move (.inl rfl) rfl) (fun a763 hM762 => ?_)
                clear hM760
                refine s_val hM762 (.inl rfl) rfl rfl (ev_len rfl rfl Try.underlying78) (fun a765 hM764 => ?_)
                clear hM762
                refine s_val hM764 (.inl rfl) rfl rfl (ev_bin rfl rfl rfl g_int (b_lss (b := true) (by decide))) (fun a767 hM766 => ?_)
                clear hM764
                refine seg_nil (hK759 _ _ ?_)
                clear hK759 K759 QK759
                have hM768 := hM766.cut7 (t1 := 5) (t2 := 0) (t3 := 1) (t4 := 6) (t5 := 12) (t6 := 13) (t7 := 133) rfl rfl rfl rfl rfl rfl rfl
                clear hM766
                refine wp_cond_true (hM768.ev (t := 133) rfl) ?_
                refine wp_skip ?_
                refine hK625 _ _ ?_
                refine wp_seq_k fun K769 hK769 => ?_
                refine wp_block ?_
                refine q_open (by kernel_rfl) (by kernel_rfl) fun K770 hK770 => ?_
                refine q_val hM768 (.inl rfl) rfl rfl (fun m => (ev_move (.inl rfl) rfl)) (fun a772 hM771 => ?_)
                clear hM768
                refine q_val hM771 (.inl rfl) rfl rfl (fun m => (ev_move (.inl rfl) rfl)) (fun a774 hM773 => ?_)
                clear hM771
                refine q_val hM773 (.inl rfl) rfl rfl (fun m => (ev_idx (b := g) (k := 2) (sz := 18) (p := 36) rfl rfl rfl Try.underlying78 (by kernel_rfl) (by decide) (by first | rfl | omega))) (fun a776 hM775 => ?_)
                clear hM773
                refine q_val hM775 (.inl rfl) rfl rfl (fun m => (ev_loadm rfl rfl ((HRg2.out.below HB623.out).below (Wd.below m)) Try.underlying32 rfl (by kernel_rfl))) (fun a778 hM777 => ?_)
                clear hM775
                refine q_val hM777 (.inl rfl) rfl rfl (fun m => (ev_fldw (m := 18) rfl rfl (fun w => by simp [go_sem]))) (fun a780 hM779 => ?_)
                clear hM777
                refine q_val hM779 (.inl rfl) rfl rfl (fun m => (ev_load1 (v := .int .i64 N) rfl rfl (((KB81.out.on HB622.out).on (Wd.below m)).rng.at_ (m := 18) (by rw [HPC.out]; rfl)) (isAgg_no Try.underlying3 rfl))) (fun a782 hM781 => ?_)
                clear hM779
                refine q_call hM781 (.inl rfl) rfl rfl (f := 25) (args := #[.agg ((msC (x2_ x) u3)), .int .i64 N]) (v := .int .i64 ((formE r2))) (ev_call hM781 rfl rfl rfl (fun w => by simp [go_sem])) (fun m => wd_call (message_Check N (x2_ x) u3 _ (hide (((HFE.out.below HB623.out).below (Wd.below m))).s2) (hide HFE.out.t2) (hide rfl) HR2_)) (fun a784 hM783 => ?_)
                clear hM781
                refine q_call hM783 (.inl rfl) rfl rfl (f := 18) (args := #[.int .i64 ((formE r2))]) (v := .int .i64 ((formE r2))) (ev_call hM783 rfl rfl rfl (fun w => by simp [go_sem])) (fun m => wd_same (law7_num _ _)) (fun a786 hM785 => ?_)
                clear hM783
                refine q_val hM785 (.inl rfl) rfl rfl (fun m => (ev_bin rfl rfl rfl g_int (b_eql (b := r2) (by cases r2 <;> decide)))) (fun a788 hM787 => ?_)
                clear hM785
                refine q_val hM787 (.inl rfl) rfl rfl (fun m => (ev_move (.inl rfl) rfl)) (fun a790 hM789 => ?_)
                clear hM787
                refine q_val hM789 (.inl rfl) rfl rfl (fun m => (ev_move (.inl rfl) rfl)) (fun a792 hM791 => ?_)
                clear hM789
                refine q_val hM791 (.inl rfl) rfl rfl (fun m => (ev_idx (b := g) (k := 2) (sz := 18) (p := 36) rfl rfl rfl Try.underlying78 (by kernel_rfl) (by decide) (by first | rfl | omega))) (fun a794 hM793 => ?_)
                clear hM791
                refine q_val hM793 (.inl rfl) rfl rfl (fun m => (ev_loadm rfl rfl ((HRg2.out.below HB623.out).below (Wd.below m)) Try.underlying32 rfl (by kernel_rfl))) (fun a796 hM795 => ?_)
                clear hM793
                refine q_val hM795 (.inl rfl) rfl rfl (fun m => (ev_fldw (m := 18) rfl rfl (fun w => by simp [go_sem]))) (fun a798 hM797 => ?_)
                clear hM795
                refine q_val hM797 (.inl rfl) rfl rfl (fun m => (ev_load1 (v := .int .i64 N) rfl rfl (((KB81.out.on HB622.out).on (Wd.below m)).rng.at_ (m := 18) (by rw [HPC.out]; rfl)) (isAgg_no Try.underlying3 rfl))) (fun a800 hM799 => ?_)
                clear hM797
                refine q_call hM799 (.inl rfl) rfl rfl (f := 21) (args := #[.agg ((msC (x2_ x) u3)), .int .i64 N]) (v := .bool r2) (ev_call hM799 rfl rfl rfl (fun w => by simp [go_sem])) (fun m => wd_call (ref4_Message N (x2_ x) u3 _ (hide (((HFE.out.below HB623.out).below (Wd.below m))).s2) (hide HFE.out.t2) (hide rfl) HR2_)) (fun a802 hM801 => ?_)
                clear hM799
                refine q_val hM801 (.inl rfl) rfl rfl (fun m => (ev_bin rfl rfl rfl g_bool (b_neb Try.underlying4 (b := false) (by simp)))) (fun a804 hM803 => ?_)
                clear hM801
                refine wpQuiet_nil (hK770 _ fun w805 hb806 => ?_)
                clear hK770 K770
                have HB807 := hide (below_then HB621.out hb806)
                have HB808 := hide (below_then HB622.out hb806)
                have HB809 := hide (below_then HB623.out hb806)
                clear hb806 HB621 HB622 HB623
                have hM810 := hM803.cut7 (t1 := 5) (t2 := 0) (t3 := 1) (t4 := 6) (t5 := 12) (t6 := 13) (t7 := 152) rfl rfl rfl rfl rfl rfl rfl
                clear hM803
                refine wp_cond_false (hM810.ev (t := 152) rfl) ?_
                refine wp_skip ?_
                refine inb_n ?_
                refine hK769 _ _ ?_
                refine region_last fun K811 QK811 hK811 => ?_
                refine s_val hM810 (.inl rfl) rfl rfl (ev_move (.inl rfl) rfl) (fun a813 hM812 => ?_)
                clear hM810
                refine s_val hM812 (.inl rfl) rfl rfl (ev_bin rfl rfl rfl g_int (b_add (r := ((2 + 1 : Nat) : Int)) (by decide) (by decide))) (fun a815 hM814 => ?_)
                clear hM812
                refine s_val hM814 (.inl rfl) rfl rfl (ev_move (.inr rfl) rfl) (fun a817 hM816 => ?_)
                clear hM814
                refine seg_nil (hK811 _ _ ?_)
                clear hK811 K811 QK811
                have hM818 := hM816.cut6 (t1 := 5) (t2 := 0) (t3 := 1) (t4 := 6) (t5 := 12) (t6 := 13) rfl rfl rfl rfl rfl rfl
                clear hM816
                have hM819 := hM818.cut6 (t1 := 13) (t2 := 5) (t3 := 0) (t4 := 1) (t5 := 6) (t6 := 12) rfl rfl rfl rfl rfl rfl
                clear hM818
                exact ⟨4 - (2 + 1), by omega, 2 + 1, rfl, hM819, HB807, HB808, HB809⟩
              · skip
                refine region_then fun K820 QK820 hK820 => ?_
                refine s_val hM620 (.inl rfl) rfl rfl (ev_move (.inl rfl) rfl) (fun a822 hM821 => ?_)
                clear hM620
                refine s_val hM821 (.inl rfl) rfl rfl (ev_move (.inl rfl) rfl) (fun a824 hM823 => ?_)
                clear hM821
                refine s_val hM823 (.inl rfl) rfl rfl (ev_len rfl rfl Try.underlying78) (fun a826 hM825 => ?_)
                clear hM823
                refine s_val hM825 (.inl rfl) rfl rfl (ev_bin rfl rfl rfl g_int (b_lss (b := true) (by decide))) (fun a828 hM827 => ?_)
                clear hM825
                refine seg_nil (hK820 _ _ ?_)
                clear hK820 K820 QK820
                have hM829 := hM827.cut7 (t1 := 5) (t2 := 0) (t3 := 1) (t4 := 6) (t5 := 12) (t6 := 13) (t7 := 133) rfl rfl rfl rfl rfl rfl rfl
                clear hM827
                refine wp_cond_true (hM829.ev (t := 133) rfl) ?_
                refine wp_skip ?_
                refine hK625 _ _ ?_
                refine wp_seq_k fun K830 hK830 => ?_
                refine wp_block ?_
                refine q_open (by kernel_rfl) (by kernel_rfl) fun K831 hK831 => ?_
                refine q_val hM829 (.inl rfl) rfl rfl (fun m => (ev_move (.inl rfl) rfl)) (fun a833 hM832 => ?_)
                clear hM829
                refine q_val hM832 (.inl rfl) rfl rfl (fun m => (ev_move (.inl rfl) rfl)) (fun a835 hM834 => ?_)
                clear hM832
                refine q_val hM834 (.inl rfl) rfl rfl (fun m => (ev_idx (b := g) (k := 3) (sz := 18) (p := 54) rfl rfl rfl Try.underlying78 (by kernel_rfl) (by decide) (by first | rfl | omega))) (fun a837 hM836 => ?_)
                clear hM834
                refine q_val hM836 (.inl rfl) rfl rfl (fun m => (ev_loadm rfl rfl ((HRg3.out.below HB623.out).below (Wd.below m)) Try.underlying32 rfl (by kernel_rfl))) (fun a839 hM838 => ?_)
                clear hM836
                refine q_val hM838 (.inl rfl) rfl rfl (fun m => (ev_fldw (m := 18) rfl rfl (fun w => by simp [go_sem]))) (fun a841 hM840 => ?_)
                clear hM838
                refine q_val hM840 (.inl rfl) rfl rfl (fun m => (ev_load1 (v := .int .i64 N) rfl rfl (((KB81.out.on HB622.out).on (Wd.below m)).rng.at_ (m := 18) (by rw [HPC.out]; rfl)) (isAgg_no Try.underlying3 rfl))) (fun a843 hM842 => ?_)
                clear hM840
                refine q_call hM842 (.inl rfl) rfl rfl (f := 25) (args := #[.agg ((msC (x3_ x) (u3_ u4 A3 (u4.ds.n + 1) c3))), .int .i64 N]) (v := .int .i64 ((formE r3))) (ev_call hM842 rfl rfl rfl (fun w => by simp [go_sem])) (fun m => wd_call (message_Check N (x3_ x) (u3_ u4 A3 (u4.ds.n + 1) c3) _ (hide (((HFE.out.below HB623.out).below (Wd.below m))).s3) (hide HFE.out.t3) (hide rfl) HR3_)) (fun a845 hM844 => ?_)
                clear hM842
                refine q_call hM844 (.inl rfl) rfl rfl (f := 18) (args := #[.int .i64 ((formE r3))]) (v := .int .i64 ((formE r3))) (ev_call hM844 rfl rfl rfl (fun w => by simp [go_sem])) (fun m => wd_same (law7_num _ _)) (fun a847 hM846 => ?_)
                clear hM844
                refine q_val hM846 (.inl rfl) rfl rfl (fun m => (ev_bin rfl rfl rfl g_int (b_eql (b := r3) (by cases r3 <;> decide)))) (fun a849 hM848 => ?_)
                clear hM846
                refine q_val hM848 (.inl rfl) rfl rfl (fun m => (ev_move (.inl rfl) rfl)) (fun a851 hM850 => ?_)
                clear hM848
                refine q_val hM850 (.inl rfl) rfl rfl (fun m => (ev_move (.inl rfl) rfl)) (fun a853 hM852 => ?_)
                clear hM850
                refine q_val hM852 (.inl rfl) rfl rfl (fun m => (ev_idx (b := g) (k := 3) (sz := 18) (p := 54) rfl rfl rfl Try.underlying78 (by kernel_rfl) (by decide) (by first | rfl | omega))) (fun a855 hM854 => ?_)
                clear hM852
                refine q_val hM854 (.inl rfl) rfl rfl (fun m => (ev_loadm rfl rfl ((HRg3.out.below HB623.out).below (Wd.below m)) Try.underlying32 rfl (by kernel_rfl))) (fun a857 hM856 => ?_)
                clear hM854
                refine q_val hM856 (.inl rfl) rfl rfl (fun m => (ev_fldw (m := 18) rfl rfl (fun w => by simp [go_sem]))) (fun a859 hM858 => ?_)
                clear hM856
                refine q_val hM858 (.inl rfl) rfl rfl (fun m => (ev_load1 (v := .int .i64 N) rfl rfl (((KB81.out.on HB622.out).on (Wd.below m)).rng.at_ (m := 18) (by rw [HPC.out]; rfl)) (isAgg_no Try.underlying3 rfl))) (fun a861 hM860 => ?_)
                clear hM858
                refine q_call hM860 (.inl rfl) rfl rfl (f := 21) (args := #[.agg ((msC (x3_ x) (u3_ u4 A3 (u4.ds.n + 1) c3))), .int .i64 N]) (v := .bool r3) (ev_call hM860 rfl rfl rfl (fun w => by simp [go_sem])) (fun m => wd_call (ref4_Message N (x3_ x) (u3_ u4 A3 (u4.ds.n + 1) c3) _ (hide (((HFE.out.below HB623.out).below (Wd.below m))).s3) (hide HFE.out.t3) (hide rfl) HR3_)) (fun a863 hM862 => ?_)
                clear hM860
                refine q_val hM862 (.inl rfl) rfl rfl (fun m => (ev_bin rfl rfl rfl g_bool (b_neb Try.underlying4 (b := false) (by simp)))) (fun a865 hM864 => ?_)
                clear hM862
                refine wpQuiet_nil (hK831 _ fun w866 hb867 => ?_)
                clear hK831 K831
                have HB868 := hide (below_then HB621.out hb867)
                have HB869 := hide (below_then HB622.out hb867)
                have HB870 := hide (below_then HB623.out hb867)
                clear hb867 HB621 HB622 HB623
                have hM871 := hM864.cut7 (t1 := 5) (t2 := 0) (t3 := 1) (t4 := 6) (t5 := 12) (t6 := 13) (t7 := 152) rfl rfl rfl rfl rfl rfl rfl
                clear hM864
                refine wp_cond_false (hM871.ev (t := 152) rfl) ?_
                refine wp_skip ?_
                refine inb_n ?_
                refine hK830 _ _ ?_
                refine region_last fun K872 QK872 hK872 => ?_
                refine s_val hM871 (.inl rfl) rfl rfl (ev_move (.inl rfl) rfl) (fun a874 hM873 => ?_)
                clear hM871
                refine s_val hM873 (.inl rfl) rfl rfl (ev_bin rfl rfl rfl g_int (b_add (r := ((3 + 1 : Nat) : Int)) (by decide) (by decide))) (fun a876 hM875 => ?_)
                clear hM873
                refine s_val hM875 (.inl rfl) rfl rfl (ev_move (.inr rfl) rfl) (fun a878 hM877 => ?_)
                clear hM875
                refine seg_nil (hK872 _ _ ?_)
                clear hK872 K872 QK872
                have hM879 := hM877.cut6 (t1 := 5) (t2 := 0) (t3 := 1) (t4 := 6) (t5 := 12) (t6 := 13) rfl rfl rfl rfl rfl rfl
                clear hM877
                have hM880 := hM879.cut6 (t1 := 13) (t2 := 5) (t3 := 0) (t4 := 1) (t5 := 6) (t6 := 12) rfl rfl rfl rfl rfl rfl
                clear hM879
                exact ⟨4 - (3 + 1), by omega, 3 + 1, rfl, hM880, HB868, HB869, HB870⟩
  · intro a w1 Q hM HB0 hk
    refine region_last fun K881 QK881 hK881 => ?_
    refine s_call hM (.inl rfl) rfl rfl (f := 22) (args := #[]) (ev_call hM rfl rfl rfl (fun w => by simp [go_sem]) _) (law7_wakes _) (fun e w882 hp => ?_)
    obtain ⟨rfl, hb883⟩ := hp
    refine ⟨_, rfl, fun a885 hM884 => ?_⟩
    clear hM
    have HB886 := hide (below_then HB0.out hb883)
    clear hb883 HB0
    refine s_val hM884 (.inl rfl) rfl rfl (ev_move (.inr rfl) rfl) (fun a888 hM887 => ?_)
    clear hM884
    refine seg_nil (hK881 _ _ ?_)
    clear hK881 K881 QK881
    have hM889 := hM887.cut1 (t1 := 4) rfl
    clear hM887
    exact hk _ _ hM889 HB886
  · intro a w1 hM HB
    refine bodyPost_ret (results_tmp rfl _ _ _) hM.2.1 ?_
    rw [show a.tmps.getD 4 undef = .bool true from hM.ev (t := 4) rfl]
    exact ⟨rfl, HB.out⟩
end Go.Proofs.Ytmnogefpphonlaa
