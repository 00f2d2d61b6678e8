/-
  The walk of MessageChecks: whatever the list of records, the call answers true and changes nothing that was there.
-/
import Derived.Test.YtmnogefpphonlaaGr29
namespace Go.Proofs.Ytmnogefpphonlaa
open Go.RowKit
set_option maxRecDepth 100000 in
set_option maxHeartbeats 4000000 in
theorem walk_MessageChecks {v : Value} {w : World} (ho : ∃ A n c, v = .slice A n c ∧ Asks7 w A n) :
    Calls Try.prog 5 #[v] w fun r w' => r = .returned (.bool true) ∧ Below w.heap.size w w' := by
  obtain ⟨A, n, c, rfl, hn, h⟩ := ho
  have HH := hide h
  clear h
  go_enter Try.func5, Try.ntmps5
  refine law_shape (NS := 56) (t := 14) (si := 3) (sr := 2) (n := n) (M0 := [(0, .slice A n c)]) (Frm.start rfl (by intro p hp; simp only [List.mem_cons, List.not_mem_nil, or_false] at hp; subst hp; rfl)) ?_ ?_ ?_ ?_ ?_ ?_ ?_ rfl
  · intro a w Q hM hk
    refine region_last fun K1 QK1 hK1 => ?_
    refine s_val hM (.inl rfl) rfl rfl (ev_move (.inr rfl) rfl) (fun a3 hM2 => ?_)
    clear hM
    refine seg_nil (hK1 _ _ ?_)
    clear hK1 K1 QK1
    have hM4 := hM2.cut1 (t1 := 0) rfl
    clear hM2
    exact hk _ hM4
  · intro a w Q hM hk
    refine region_last fun K5 QK5 hK5 => ?_
    refine s_val hM (.inl rfl) rfl rfl (ev_move (.inr rfl) rfl) (fun a7 hM6 => ?_)
    clear hM
    refine seg_nil (hK5 _ _ ?_)
    clear hK5 K5 QK5
    have hM8 := hM6.cut2 (t1 := 3) (t2 := 0) rfl rfl
    clear hM6
    exact hk _ hM8
  · intro k a w Q hM hk
    have hd1 : decide ((k : Int) < (n : Int)) = decide (k < n) := by rw [decide_eq_decide]; omega
    have hd2 : decide ((k : Int) < 8) = decide (k < 8) := by rw [decide_eq_decide]; omega
    cases e1 : decide (k < n)
    case false =>
      rw [e1] at hd1 hk
      refine region_last fun K9 QK9 hK9 => ?_
      refine s_val hM (.inl rfl) rfl rfl (ev_move (.inl rfl) rfl) (fun a11 hM10 => ?_)
      clear hM
      refine s_val hM10 (.inl rfl) rfl rfl (ev_move (.inl rfl) rfl) (fun a13 hM12 => ?_)
      clear hM10
      refine s_val hM12 (.inl rfl) rfl rfl (ev_len rfl rfl Try.underlying22) (fun a15 hM14 => ?_)
      clear hM12
      refine s_val hM14 (.inl rfl) rfl rfl (ev_bin rfl rfl rfl g_int (b_lss (b := false) hd1)) (fun a17 hM16 => ?_)
      clear hM14
      refine s_val hM16 (.inl rfl) rfl rfl (ev_move (.inl rfl) rfl) (fun a19 hM18 => ?_)
      clear hM16
      refine s_skip hM18 rfl rfl rfl rfl rfl rfl (fun a21 hM20 => ?_)
      clear hM18
      refine s_skip hM20 rfl rfl rfl rfl rfl rfl (fun a23 hM22 => ?_)
      clear hM20
      refine s_val hM22 (.inl rfl) rfl rfl (ev_pick rfl rfl rfl) (fun a25 hM24 => ?_)
      clear hM22
      refine seg_nil (hK9 _ _ ?_)
      clear hK9 K9 QK9
      exact hk _ (hM24.cut2 (t1 := 3) (t2 := 0) rfl rfl) (hM24.ev (t := 14) rfl)
    case true =>
      rw [e1] at hd1 hk
      cases e2 : decide (k < 8)
      case false =>
        rw [e2] at hd2 hk
        refine region_last fun K26 QK26 hK26 => ?_
        refine s_val hM (.inl rfl) rfl rfl (ev_move (.inl rfl) rfl) (fun a28 hM27 => ?_)
        clear hM
        refine s_val hM27 (.inl rfl) rfl rfl (ev_move (.inl rfl) rfl) (fun a30 hM29 => ?_)
        clear hM27
        refine s_val hM29 (.inl rfl) rfl rfl (ev_len rfl rfl Try.underlying22) (fun a32 hM31 => ?_)
        clear hM29
        refine s_val hM31 (.inl rfl) rfl rfl (ev_bin rfl rfl rfl g_int (b_lss (b := true) hd1)) (fun a34 hM33 => ?_)
        clear hM31
        refine s_val hM33 (.inl rfl) rfl rfl (ev_move (.inl rfl) rfl) (fun a36 hM35 => ?_)
        clear hM33
        refine s_val hM35 (.inr ⟨_, _, _, rfl, rfl, rfl⟩) rfl rfl (ev_move (.inl rfl) rfl) (fun a38 hM37 => ?_)
        clear hM35
        refine s_val hM37 (.inr ⟨_, _, _, rfl, rfl, rfl⟩) rfl rfl (ev_bin rfl rfl rfl g_int (b_lss (b := false) hd2)) (fun a40 hM39 => ?_)
        clear hM37
        refine s_val hM39 (.inl rfl) rfl rfl (ev_pick rfl rfl rfl) (fun a42 hM41 => ?_)
        clear hM39
        refine seg_nil (hK26 _ _ ?_)
        clear hK26 K26 QK26
        exact hk _ (hM41.cut2 (t1 := 3) (t2 := 0) rfl rfl) (hM41.ev (t := 14) rfl)
      case true =>
        rw [e2] at hd2 hk
        refine region_last fun K43 QK43 hK43 => ?_
        refine s_val hM (.inl rfl) rfl rfl (ev_move (.inl rfl) rfl) (fun a45 hM44 => ?_)
        clear hM
        refine s_val hM44 (.inl rfl) rfl rfl (ev_move (.inl rfl) rfl) (fun a47 hM46 => ?_)
        clear hM44
        refine s_val hM46 (.inl rfl) rfl rfl (ev_len rfl rfl Try.underlying22) (fun a49 hM48 => ?_)
        clear hM46
        refine s_val hM48 (.inl rfl) rfl rfl (ev_bin rfl rfl rfl g_int (b_lss (b := true) hd1)) (fun a51 hM50 => ?_)
        clear hM48
        refine s_val hM50 (.inl rfl) rfl rfl (ev_move (.inl rfl) rfl) (fun a53 hM52 => ?_)
        clear hM50
        refine s_val hM52 (.inr ⟨_, _, _, rfl, rfl, rfl⟩) rfl rfl (ev_move (.inl rfl) rfl) (fun a55 hM54 => ?_)
        clear hM52
        refine s_val hM54 (.inr ⟨_, _, _, rfl, rfl, rfl⟩) rfl rfl (ev_bin rfl rfl rfl g_int (b_lss (b := true) hd2)) (fun a57 hM56 => ?_)
        clear hM54
        refine s_val hM56 (.inl rfl) rfl rfl (ev_pick rfl rfl rfl) (fun a59 hM58 => ?_)
        clear hM56
        refine seg_nil (hK43 _ _ ?_)
        clear hK43 K43 QK43
        exact hk _ (hM58.cut2 (t1 := 3) (t2 := 0) rfl rfl) (hM58.ev (t := 14) rfl)
  · intro k a w Q hk8 hM hk
    refine region_last fun K60 QK60 hK60 => ?_
    refine s_val hM (.inl rfl) rfl rfl (ev_move (.inl rfl) rfl) (fun a62 hM61 => ?_)
    clear hM
    refine s_val hM61 (.inl rfl) rfl rfl (ev_bin rfl rfl rfl g_int (b_add (r := ((k + 1 : Nat) : Int)) (by omega) (by omega))) (fun a64 hM63 => ?_)
    clear hM61
    refine s_val hM63 (.inl rfl) rfl rfl (ev_move (.inr rfl) rfl) (fun a66 hM65 => ?_)
    clear hM63
    refine seg_nil (hK60 _ _ ?_)
    clear hK60 K60 QK60
    have hM67 := hM65.cut2 (t1 := 3) (t2 := 0) rfl rfl
    clear hM65
    exact hk _ hM67
  · intro k a w1 Q hlt h8 hM HB0 hN hE hR
    obtain ⟨b, off, rfl, hc⟩ := HH.out (by omega)
    obtain ⟨x, v, N, A4, n4, c4, bs, C0, C1, C2, S1, L1, S4, hc4, hm4⟩ := hc k hlt
    obtain ⟨C, HC⟩ : ∃ C : Array Value, Hid (C = msC x v) := ⟨_, rfl⟩
    obtain ⟨PC, HPC⟩ : ∃ C : Array Value, Hid (C = askC x v N (.slice A4 n4 c4)) := ⟨_, rfl⟩
    obtain ⟨ZM, HZM⟩ : ∃ C : Array Value, Hid (C = msC zM zV) := ⟨_, rfl⟩
    obtain ⟨R1, R2⟩ := ask_rng HC.out HPC.out C0 C1 C2
    have HR1 := hide R1
    have HR2 := hide R2
    have HS := hide S1
    have HL := hide L1
    have HZ := hide (MsL.z L1)
    have HX := hide S4
    have HXL := hide S4.blen
    have HX4 := hide (And.intro hc4 hm4)
    clear R1 R2 C0 C1 C2 S1 L1 S4 hc hc4 hm4
    refine region_then fun K68 QK68 hK68 => ?_
    refine s_val hM (.inl rfl) rfl rfl (ev_move (.inl rfl) rfl) (fun a70 hM69 => ?_)
    clear hM
    refine s_val hM69 (.inl rfl) rfl rfl (ev_move (.inl rfl) rfl) (fun a72 hM71 => ?_)
    clear hM69
    refine s_val hM71 (.inl rfl) rfl rfl (ev_idx (b := b) (k := k) (sz := 20) (p := off + k * 20) rfl rfl rfl Try.underlying22 (by kernel_rfl) hlt (by first | rfl | omega)) (fun a74 hM73 => ?_)
    clear hM71
    refine s_val hM73 (.inl rfl) rfl rfl (ev_loadm rfl rfl (HR1.out.below HB0.out) Try.underlying35 rfl (by rw [HPC.out]; exact info_ask)) (fun a76 hM75 => ?_)
    clear hM73
    refine s_new hM75 rfl rfl rfl rfl alloc_ask rfl rfl rfl rfl (by rw [HPC.out]; exact info_ask) (by rw [HPC.out]; rfl) (one_ask HPC.out) (fun g77 a83 w78 hM82 KB81_ hb79 hg80 => ?_)
    have KB81 := hide KB81_
    clear hM75 KB81_
    have hg80_ : Hid (w1.heap.size ≤ g77) := hg80
    clear hg80
    have HB84 := hide (below_then HB0.out hb79)
    clear hb79 HB0
    have HB86 : Hid (Below w78.heap.size w78 w78) := Below.refl _ _
    have HRCg77 : Hid (Rng w78 g77 0 C) := ((KB81.out).rng).sub 0 (ask_sub HC.out HPC.out)
    refine seg_nil (hK68 _ _ ?_)
    clear hK68 K68 QK68
    have hM87 := hM82.cut3 (t1 := 3) (t2 := 0) (t3 := 4) rfl rfl rfl
    clear hM82
    refine wp_seq_k fun K88 hK88 => ?_
    obtain ⟨q0, HV⟩ : ∃ q, Hid (decide (2000 < msW x v) = q) := ⟨_, rfl⟩
    cases q0
    case true =>
      refine region_then fun K89 QK89 hK89 => ?_
      refine s_val hM87 (.inl rfl) rfl rfl (ev_fldw (m := 0) rfl rfl (fun w => by simp [go_sem])) (fun a91 hM90 => ?_)
      clear hM87
      refine s_val hM90 (.inl rfl) rfl rfl (ev_loadm rfl rfl (HRCg77.out.below HB86.out) Try.underlying32 rfl (by rw [HC.out]; exact Try.infoMsg)) (fun a93 hM92 => ?_)
      clear hM90
      refine s_call hM92 (.inl rfl) rfl rfl (f := 23) (args := #[.agg C]) (by simp only [execOp, resolve, List.map_toArray, List.map_cons, List.map_nil, hM92.ev (t := 22) rfl]; simp [go_sem, Act.eval]) (law7_Heavy x v _ (hide (HS.out.below HB84.out)) HL HC HV) (fun e w94 hp => ?_)
      obtain ⟨rfl, hb95⟩ := hp
      refine ⟨_, rfl, fun a97 hM96 => ?_⟩
      clear hM92
      have HB98 := hide (below_then HB84.out hb95)
      have HB99 := hide (below_then HB86.out hb95)
      clear hb95 HB84 HB86
      refine seg_nil (hK89 _ _ ?_)
      clear hK89 K89 QK89
      have hM100 := hM96.cut4 (t1 := 3) (t2 := 0) (t3 := 4) (t4 := 23) rfl rfl rfl rfl
      clear hM96
      refine wp_cond_true (hM100.ev (t := 23) rfl) ?_
      refine region_then fun K101 QK101 hK101 => ?_
      refine s_val hM100 (.inl rfl) rfl rfl (ev_move (.inr rfl) rfl) (fun a103 hM102 => ?_)
      clear hM100
      refine seg_nil (hK101 _ _ ?_)
      clear hK101 K101 QK101
      have hM104 := hM102.cut3 (t1 := 3) (t2 := 0) (t3 := 2) rfl rfl rfl
      clear hM102
      refine wp_ret ?_
      exact hR _ _ (hM104.cut1 (t1 := 2) rfl) HB98
    case false =>
      have HK := hide (MsL.light HV.out)
      refine region_then fun K105 QK105 hK105 => ?_
      refine s_val hM87 (.inl rfl) rfl rfl (ev_fldw (m := 0) rfl rfl (fun w => by simp [go_sem])) (fun a107 hM106 => ?_)
      clear hM87
      refine s_val hM106 (.inl rfl) rfl rfl (ev_loadm rfl rfl (HRCg77.out.below HB86.out) Try.underlying32 rfl (by rw [HC.out]; exact Try.infoMsg)) (fun a109 hM108 => ?_)
      clear hM106
      refine s_call hM108 (.inl rfl) rfl rfl (f := 23) (args := #[.agg C]) (by simp only [execOp, resolve, List.map_toArray, List.map_cons, List.map_nil, hM108.ev (t := 22) rfl]; simp [go_sem, Act.eval]) (law7_Heavy x v _ (hide (HS.out.below HB84.out)) HL HC HV) (fun e w110 hp => ?_)
      obtain ⟨rfl, hb111⟩ := hp
      refine ⟨_, rfl, fun a113 hM112 => ?_⟩
      clear hM108
      have HB114 := hide (below_then HB84.out hb111)
      have HB115 := hide (below_then HB86.out hb111)
      clear hb111 HB84 HB86
      refine seg_nil (hK105 _ _ ?_)
      clear hK105 K105 QK105
      have hM116 := hM112.cut4 (t1 := 3) (t2 := 0) (t3 := 4) (t4 := 23) rfl rfl rfl rfl
      clear hM112
      refine wp_cond_false (hM116.ev (t := 23) rfl) ?_
      refine wp_skip ?_
      refine hK88 _ _ ?_
      refine region_then fun K117 QK117 hK117 => ?_
      refine s_val hM116 (.inl rfl) rfl rfl (ev_fldw (m := 0) rfl rfl (fun w => by simp [go_sem])) (fun a119 hM118 => ?_)
      clear hM116
      refine s_val hM118 (.inl rfl) rfl rfl (ev_loadm rfl rfl (HRCg77.out.below HB115.out) Try.underlying32 rfl (by rw [HC.out]; exact Try.infoMsg)) (fun a121 hM120 => ?_)
      clear hM118
      refine s_call hM120 (.inl rfl) rfl rfl (f := 24) (args := #[.agg C]) (by simp only [execOp, resolve, List.map_toArray, List.map_cons, List.map_nil, hM120.ev (t := 25) rfl]; simp [go_sem, Act.eval]) (copy_msg (hide (HS.out.below HB114.out)) HK HZ HC) (fun e w122 hp => ?_)
      obtain ⟨D, u, rfl, HD, HSD, HZD, hb123⟩ := hp
      refine ⟨_, rfl, fun a125 hM124 => ?_⟩
      clear hM120
      have HB126 := hide (below_then HB114.out hb123)
      have HB127 := hide (below_then HB115.out hb123)
      clear hb123 HB114 HB115
      have HB129 : Hid (Below w122.heap.size w122 w122) := Below.refl _ _
      refine s_new hM124 rfl rfl rfl rfl alloc_msg rfl rfl rfl rfl (by rw [HD.out]; exact Try.infoMsg) (by rw [HD.out]; rfl) (one_msg HD.out) (fun g130 a136 w131 hM135 KB134_ hb132 hg133 => ?_)
      have KB134 := hide KB134_
      clear hM124 KB134_
      have hg133_ : Hid (w122.heap.size ≤ g130) := hg133
      clear hg133
      have HB137 := hide (below_then HB126.out hb132)
      have HB138 := hide (below_then HB127.out hb132)
      have HB139 := hide (below_then HB129.out hb132)
      clear hb132 HB126 HB127 HB129
      have HB141 : Hid (Below w131.heap.size w131 w131) := Below.refl _ _
      refine seg_nil (hK117 _ _ ?_)
      clear hK117 K117 QK117
      have hM142 := hM135.cut4 (t1 := 3) (t2 := 0) (t3 := 4) (t4 := 5) rfl rfl rfl rfl
      clear hM135
      obtain ⟨q1, HM⟩ : ∃ q, Hid (mayM N x = q) := ⟨_, rfl⟩
      cases q1
      case true =>
        refine region_then fun K143 QK143 hK143 => ?_
        refine s_val hM142 (.inl rfl) rfl rfl (ev_loadm rfl rfl (KB134.out.on HB141.out).rng Try.underlying32 rfl (by rw [HD.out]; exact Try.infoMsg)) (fun a145 hM144 => ?_)
        clear hM142
        refine s_val hM144 (.inl rfl) rfl rfl (ev_fldw (m := 18) rfl rfl (fun w => by simp [go_sem])) (fun a147 hM146 => ?_)
        clear hM144
        refine s_val hM146 (.inl rfl) rfl rfl (ev_load1 (v := .int .i64 N) rfl rfl ((KB81.out.on HB138.out).rng.at_ (m := 18) (by rw [HPC.out]; rfl)) (isAgg_no Try.underlying3 rfl)) (fun a149 hM148 => ?_)
        clear hM146
        refine s_call hM148 (.inl rfl) rfl rfl (f := 25) (args := #[.agg D, .int .i64 N]) (by simp only [execOp, resolve, List.map_toArray, List.map_cons, List.map_nil, hM148.ev (t := 27) rfl, hM148.ev (t := 29) rfl]; simp [go_sem, Act.eval]) (message_Check N x u _ (hide (HSD.out.below HB139.out)) (hide HZD.out.1) HD HM) (fun e w150 hp => ?_)
        obtain ⟨rfl, hb151⟩ := hp
        refine ⟨_, rfl, fun a153 hM152 => ?_⟩
        clear hM148
        have HB154 := hide (below_then HB137.out hb151)
        have HB155 := hide (below_then HB138.out hb151)
        have HB156 := hide (below_then HB139.out hb151)
        have HB157 := hide (below_then HB141.out hb151)
        clear hb151 HB137 HB138 HB139 HB141
        refine s_call hM152 (.inl rfl) rfl rfl (f := 18) (args := #[.int .i64 ((formE true))]) (by simp only [execOp, resolve, List.map_toArray, List.map_cons, List.map_nil, hM152.ev (t := 30) rfl]; simp [go_sem, Act.eval]) (law7_num _ _) (fun e w158 hp => ?_)
        obtain ⟨rfl, rfl⟩ := hp
        refine ⟨_, rfl, fun a161 hM160 => ?_⟩
        clear hM152
        refine s_val hM160 (.inl rfl) rfl rfl (ev_move (.inr rfl) rfl) (fun a163 hM162 => ?_)
        clear hM160
        refine seg_nil (hK143 _ _ ?_)
        clear hK143 K143 QK143
        have hM164 := hM162.cut5 (t1 := 3) (t2 := 0) (t3 := 4) (t4 := 5) (t5 := 6) rfl rfl rfl rfl rfl
        clear hM162
        refine region_then fun K165 QK165 hK165 => ?_
        refine s_val hM164 (.inl rfl) rfl rfl (ev_move (.inl rfl) rfl) (fun a167 hM166 => ?_)
        clear hM164
        refine s_val hM166 (.inl rfl) rfl rfl (ev_bin rfl rfl rfl g_int (b_eql (b := true) (by decide))) (fun a169 hM168 => ?_)
        clear hM166
        refine s_val hM168 (.inl rfl) rfl rfl (ev_fldw (m := 0) rfl rfl (fun w => by simp [go_sem])) (fun a171 hM170 => ?_)
        clear hM168
        refine s_val hM170 (.inl rfl) rfl rfl (ev_loadm rfl rfl (HRCg77.out.below HB155.out) Try.underlying32 rfl (by rw [HC.out]; exact Try.infoMsg)) (fun a173 hM172 => ?_)
        clear hM170
        refine s_val hM172 (.inl rfl) rfl rfl (ev_fldw (m := 18) rfl rfl (fun w => by simp [go_sem])) (fun a175 hM174 => ?_)
        clear hM172
        refine s_val hM174 (.inl rfl) rfl rfl (ev_load1 (v := .int .i64 N) rfl rfl ((KB81.out.on HB155.out).rng.at_ (m := 18) (by rw [HPC.out]; rfl)) (isAgg_no Try.underlying3 rfl)) (fun a177 hM176 => ?_)
        clear hM174
        refine s_call hM176 (.inl rfl) rfl rfl (f := 21) (args := #[.agg C, .int .i64 N]) (by simp only [execOp, resolve, List.map_toArray, List.map_cons, List.map_nil, hM176.ev (t := 35) rfl, hM176.ev (t := 37) rfl]; simp [go_sem, Act.eval]) (ref4_Message N x v _ (hide (HS.out.below HB154.out)) HZ HC HM) (fun e w178 hp => ?_)
        obtain ⟨rfl, hb179⟩ := hp
        refine ⟨_, rfl, fun a181 hM180 => ?_⟩
        clear hM176
        have HB182 := hide (below_then HB154.out hb179)
        have HB183 := hide (below_then HB155.out hb179)
        have HB184 := hide (below_then HB156.out hb179)
        have HB185 := hide (below_then HB157.out hb179)
        clear hb179 HB154 HB155 HB156 HB157
        refine s_val hM180 (.inl rfl) rfl rfl (ev_bin rfl rfl rfl g_bool (b_neb Try.underlying4 (b := false) rfl)) (fun a187 hM186 => ?_)
        clear hM180
        refine s_val hM186 (.inl rfl) rfl rfl (ev_move (.inl rfl) rfl) (fun a189 hM188 => ?_)
        clear hM186
        refine s_val hM188 (.inr ⟨_, _, _, rfl, rfl, rfl⟩) rfl rfl (ev_move (.inl rfl) rfl) (fun a191 hM190 => ?_)
        clear hM188
        refine s_val hM190 (.inr ⟨_, _, _, rfl, rfl, rfl⟩) rfl rfl (ev_bin rfl rfl rfl g_int (b_neq (b := false) (by decide))) (fun a193 hM192 => ?_)
        clear hM190
        refine s_val hM192 (.inr ⟨_, _, _, rfl, rfl, rfl⟩) rfl rfl (ev_move (.inl rfl) rfl) (fun a195 hM194 => ?_)
        clear hM192
        refine s_skip hM194 rfl rfl rfl rfl rfl rfl (fun a197 hM196 => ?_)
        clear hM194
        refine s_skip hM196 rfl rfl rfl rfl rfl rfl (fun a199 hM198 => ?_)
        clear hM196
        refine s_val hM198 (.inr ⟨_, _, _, rfl, rfl, rfl⟩) rfl rfl (ev_pick rfl rfl rfl) (fun a201 hM200 => ?_)
        clear hM198
        refine s_val hM200 (.inl rfl) rfl rfl (ev_pick rfl rfl rfl) (fun a203 hM202 => ?_)
        clear hM200
        refine s_val hM202 (.inl rfl) rfl rfl (ev_move (.inl rfl) rfl) (fun a205 hM204 => ?_)
        clear hM202
        refine s_val hM204 (.inr ⟨_, _, _, rfl, rfl, rfl⟩) rfl rfl (ev_loadm rfl rfl (KB134.out.on HB185.out).rng Try.underlying32 rfl (by rw [HD.out]; exact Try.infoMsg)) (fun a207 hM206 => ?_)
        clear hM204
        refine s_val hM206 (.inr ⟨_, _, _, rfl, rfl, rfl⟩) rfl rfl (ev_fldw (m := 0) rfl rfl (fun w => by simp [go_sem])) (fun a209 hM208 => ?_)
        clear hM206
        refine s_val hM208 (.inr ⟨_, _, _, rfl, rfl, rfl⟩) rfl rfl (ev_loadm rfl rfl (HRCg77.out.below HB183.out) Try.underlying32 rfl (by rw [HC.out]; exact Try.infoMsg)) (fun a211 hM210 => ?_)
        clear hM208
        refine s_call hM210 (.inr ⟨_, _, _, rfl, rfl, rfl⟩) rfl rfl (f := 19) (args := #[.agg D, .agg C]) (by simp only [execOp, resolve, List.map_toArray, List.map_cons, List.map_nil, hM210.ev (t := 49) rfl, hM210.ev (t := 51) rfl]; simp [go_sem, Act.eval]) (ref0_EqMessage x x u v _ (hide (HSD.out.below HB184.out)) (hide HZD.out.1) (hide (HS.out.below HB182.out)) HZ HD HC (r := true) (by simp [Hid])) (fun e w212 hp => ?_)
        obtain ⟨rfl, hb213⟩ := hp
        refine ⟨_, rfl, fun a215 hM214 => ?_⟩
        clear hM210
        have HB216 := hide (below_then HB182.out hb213)
        have HB217 := hide (below_then HB183.out hb213)
        have HB218 := hide (below_then HB184.out hb213)
        have HB219 := hide (below_then HB185.out hb213)
        clear hb213 HB182 HB183 HB184 HB185
        refine s_val hM214 (.inr ⟨_, _, _, rfl, rfl, rfl⟩) rfl rfl (ev_not rfl rfl rfl) (fun a221 hM220 => ?_)
        clear hM214
        refine s_val hM220 (.inl rfl) rfl rfl (ev_pick rfl rfl rfl) (fun a223 hM222 => ?_)
        clear hM220
        refine seg_nil (hK165 _ _ ?_)
        clear hK165 K165 QK165
        have hM224 := hM222.cut4 (t1 := 3) (t2 := 0) (t3 := 4) (t4 := 54) rfl rfl rfl rfl
        clear hM222
        refine wp_cond_false (hM224.ev (t := 54) rfl) ?_
        refine wp_skip ?_
        have hM225 := hM224.cut2 (t1 := 3) (t2 := 0) rfl rfl
        clear hM224
        exact hN _ _ hM225 HB216
      case false =>
        refine region_then fun K226 QK226 hK226 => ?_
        refine s_val hM142 (.inl rfl) rfl rfl (ev_loadm rfl rfl (KB134.out.on HB141.out).rng Try.underlying32 rfl (by rw [HD.out]; exact Try.infoMsg)) (fun a228 hM227 => ?_)
        clear hM142
        refine s_val hM227 (.inl rfl) rfl rfl (ev_fldw (m := 18) rfl rfl (fun w => by simp [go_sem])) (fun a230 hM229 => ?_)
        clear hM227
        refine s_val hM229 (.inl rfl) rfl rfl (ev_load1 (v := .int .i64 N) rfl rfl ((KB81.out.on HB138.out).rng.at_ (m := 18) (by rw [HPC.out]; rfl)) (isAgg_no Try.underlying3 rfl)) (fun a232 hM231 => ?_)
        clear hM229
        refine s_call hM231 (.inl rfl) rfl rfl (f := 25) (args := #[.agg D, .int .i64 N]) (by simp only [execOp, resolve, List.map_toArray, List.map_cons, List.map_nil, hM231.ev (t := 27) rfl, hM231.ev (t := 29) rfl]; simp [go_sem, Act.eval]) (message_Check N x u _ (hide (HSD.out.below HB139.out)) (hide HZD.out.1) HD HM) (fun e w233 hp => ?_)
        obtain ⟨rfl, hb234⟩ := hp
        refine ⟨_, rfl, fun a236 hM235 => ?_⟩
        clear hM231
        have HB237 := hide (below_then HB137.out hb234)
        have HB238 := hide (below_then HB138.out hb234)
        have HB239 := hide (below_then HB139.out hb234)
        have HB240 := hide (below_then HB141.out hb234)
        clear hb234 HB137 HB138 HB139 HB141
        refine s_call hM235 (.inl rfl) rfl rfl (f := 18) (args := #[.int .i64 ((formE false))]) (by simp only [execOp, resolve, List.map_toArray, List.map_cons, List.map_nil, hM235.ev (t := 30) rfl]; simp [go_sem, Act.eval]) (law7_num _ _) (fun e w241 hp => ?_)
        obtain ⟨rfl, rfl⟩ := hp
        refine ⟨_, rfl, fun a244 hM243 => ?_⟩
        clear hM235
        refine s_val hM243 (.inl rfl) rfl rfl (ev_move (.inr rfl) rfl) (fun a246 hM245 => ?_)
        clear hM243
        refine seg_nil (hK226 _ _ ?_)
        clear hK226 K226 QK226
        have hM247 := hM245.cut5 (t1 := 3) (t2 := 0) (t3 := 4) (t4 := 5) (t5 := 6) rfl rfl rfl rfl rfl
        clear hM245
        refine region_then fun K248 QK248 hK248 => ?_
        refine s_val hM247 (.inl rfl) rfl rfl (ev_move (.inl rfl) rfl) (fun a250 hM249 => ?_)
        clear hM247
        refine s_val hM249 (.inl rfl) rfl rfl (ev_bin rfl rfl rfl g_int (b_eql (b := false) (by decide))) (fun a252 hM251 => ?_)
        clear hM249
        refine s_val hM251 (.inl rfl) rfl rfl (ev_fldw (m := 0) rfl rfl (fun w => by simp [go_sem])) (fun a254 hM253 => ?_)
        clear hM251
        refine s_val hM253 (.inl rfl) rfl rfl (ev_loadm rfl rfl (HRCg77.out.below HB238.out) Try.underlying32 rfl (by rw [HC.out]; exact Try.infoMsg)) (fun a256 hM255 => ?_)
        clear hM253
        refine s_val hM255 (.inl rfl) rfl rfl (ev_fldw (m := 18) rfl rfl (fun w => by simp [go_sem])) (fun a258 hM257 => ?_)
        clear hM255
        refine s_val hM257 (.inl rfl) rfl rfl (ev_load1 (v := .int .i64 N) rfl rfl ((KB81.out.on HB238.out).rng.at_ (m := 18) (by rw [HPC.out]; rfl)) (isAgg_no Try.underlying3 rfl)) (fun a260 hM259 => ?_)
        clear hM257
        refine s_call hM259 (.inl rfl) rfl rfl (f := 21) (args := #[.agg C, .int .i64 N]) (by simp only [execOp, resolve, List.map_toArray, List.map_cons, List.map_nil, hM259.ev (t := 35) rfl, hM259.ev (t := 37) rfl]; simp [go_sem, Act.eval]) (ref4_Message N x v _ (hide (HS.out.below HB237.out)) HZ HC HM) (fun e w261 hp => ?_)
        obtain ⟨rfl, hb262⟩ := hp
        refine ⟨_, rfl, fun a264 hM263 => ?_⟩
        clear hM259
        have HB265 := hide (below_then HB237.out hb262)
        have HB266 := hide (below_then HB238.out hb262)
        have HB267 := hide (below_then HB239.out hb262)
        have HB268 := hide (below_then HB240.out hb262)
        clear hb262 HB237 HB238 HB239 HB240
        refine s_val hM263 (.inl rfl) rfl rfl (ev_bin rfl rfl rfl g_bool (b_neb Try.underlying4 (b := false) rfl)) (fun a270 hM269 => ?_)
        clear hM263
        refine s_val hM269 (.inl rfl) rfl rfl (ev_move (.inl rfl) rfl) (fun a272 hM271 => ?_)
        clear hM269
        refine s_val hM271 (.inr ⟨_, _, _, rfl, rfl, rfl⟩) rfl rfl (ev_move (.inl rfl) rfl) (fun a274 hM273 => ?_)
        clear hM271
        refine s_val hM273 (.inr ⟨_, _, _, rfl, rfl, rfl⟩) rfl rfl (ev_bin rfl rfl rfl g_int (b_neq (b := true) (by decide))) (fun a276 hM275 => ?_)
        clear hM273
        refine s_val hM275 (.inr ⟨_, _, _, rfl, rfl, rfl⟩) rfl rfl (ev_move (.inl rfl) rfl) (fun a278 hM277 => ?_)
        clear hM275
        refine s_val hM277 (.inr ⟨_, _, _, rfl, rfl, rfl⟩) rfl rfl (ev_move (.inl rfl) rfl) (fun a280 hM279 => ?_)
        clear hM277
        refine s_val hM279 (.inr ⟨_, _, _, rfl, rfl, rfl⟩) rfl rfl (ev_bin rfl rfl rfl g_int (b_neq (b := false) (by decide))) (fun a282 hM281 => ?_)
        clear hM279
        refine s_val hM281 (.inr ⟨_, _, _, rfl, rfl, rfl⟩) rfl rfl (ev_pick rfl rfl rfl) (fun a284 hM283 => ?_)
        clear hM281
        refine s_val hM283 (.inl rfl) rfl rfl (ev_pick rfl rfl rfl) (fun a286 hM285 => ?_)
        clear hM283
        refine s_val hM285 (.inl rfl) rfl rfl (ev_move (.inl rfl) rfl) (fun a288 hM287 => ?_)
        clear hM285
        refine s_val hM287 (.inr ⟨_, _, _, rfl, rfl, rfl⟩) rfl rfl (ev_loadm rfl rfl (KB134.out.on HB268.out).rng Try.underlying32 rfl (by rw [HD.out]; exact Try.infoMsg)) (fun a290 hM289 => ?_)
        clear hM287
        refine s_val hM289 (.inr ⟨_, _, _, rfl, rfl, rfl⟩) rfl rfl (ev_fldw (m := 0) rfl rfl (fun w => by simp [go_sem])) (fun a292 hM291 => ?_)
        clear hM289
        refine s_val hM291 (.inr ⟨_, _, _, rfl, rfl, rfl⟩) rfl rfl (ev_loadm rfl rfl (HRCg77.out.below HB266.out) Try.underlying32 rfl (by rw [HC.out]; exact Try.infoMsg)) (fun a294 hM293 => ?_)
        clear hM291
        refine s_call hM293 (.inr ⟨_, _, _, rfl, rfl, rfl⟩) rfl rfl (f := 19) (args := #[.agg D, .agg C]) (by simp only [execOp, resolve, List.map_toArray, List.map_cons, List.map_nil, hM293.ev (t := 49) rfl, hM293.ev (t := 51) rfl]; simp [go_sem, Act.eval]) (ref0_EqMessage x x u v _ (hide (HSD.out.below HB267.out)) (hide HZD.out.1) (hide (HS.out.below HB265.out)) HZ HD HC (r := true) (by simp [Hid])) (fun e w295 hp => ?_)
        obtain ⟨rfl, hb296⟩ := hp
        refine ⟨_, rfl, fun a298 hM297 => ?_⟩
        clear hM293
        have HB299 := hide (below_then HB265.out hb296)
        have HB300 := hide (below_then HB266.out hb296)
        have HB301 := hide (below_then HB267.out hb296)
        have HB302 := hide (below_then HB268.out hb296)
        clear hb296 HB265 HB266 HB267 HB268
        refine s_val hM297 (.inr ⟨_, _, _, rfl, rfl, rfl⟩) rfl rfl (ev_not rfl rfl rfl) (fun a304 hM303 => ?_)
        clear hM297
        refine s_val hM303 (.inl rfl) rfl rfl (ev_pick rfl rfl rfl) (fun a306 hM305 => ?_)
        clear hM303
        refine seg_nil (hK248 _ _ ?_)
        clear hK248 K248 QK248
        have hM307 := hM305.cut4 (t1 := 3) (t2 := 0) (t3 := 4) (t4 := 54) rfl rfl rfl rfl
        clear hM305
        refine wp_cond_false (hM307.ev (t := 54) rfl) ?_
        refine wp_skip ?_
        have hM308 := hM307.cut2 (t1 := 3) (t2 := 0) rfl rfl
        clear hM307
        exact hN _ _ hM308 HB299
  · intro a w1 Q hM HB0 hk
    refine region_last fun K309 QK309 hK309 => ?_
    refine s_call hM (.inl rfl) rfl rfl (f := 22) (args := #[]) (by simp only [execOp, resolve, List.map_toArray, List.map_cons, List.map_nil]; simp [go_sem, Act.eval]) (law7_wakes _) (fun e w310 hp => ?_)
    obtain ⟨rfl, hb311⟩ := hp
    refine ⟨_, rfl, fun a313 hM312 => ?_⟩
    clear hM
    have HB314 := hide (below_then HB0.out hb311)
    clear hb311 HB0
    refine s_val hM312 (.inl rfl) rfl rfl (ev_move (.inr rfl) rfl) (fun a316 hM315 => ?_)
    clear hM312
    refine seg_nil (hK309 _ _ ?_)
    clear hK309 K309 QK309
    have hM317 := hM315.cut1 (t1 := 2) rfl
    clear hM315
    exact hk _ _ hM317 HB314
  · intro a w1 hM HB
    refine bodyPost_ret (results_tmp rfl _ _ _) hM.2.1 ?_
    rw [show a.tmps.getD 2 undef = .bool true from hM.ev (t := 2) rfl]
    exact ⟨rfl, HB.out⟩
end Go.Proofs.Ytmnogefpphonlaa
