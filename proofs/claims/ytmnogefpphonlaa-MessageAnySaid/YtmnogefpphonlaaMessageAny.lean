/-
  The walk of MessageAny: whatever the list of records, the call answers true and changes nothing that was there.
-/
import Derived.Test.YtmnogefpphonlaaGr29
import Derived.Test.YtmnogefpphonlaaSegH
set_option linter.unusedVariables false
set_option linter.unusedSimpArgs false
namespace Go.Proofs.Ytmnogefpphonlaa
open Go.RowKit
set_option maxRecDepth 100000 in
set_option maxHeartbeats 4000000 in
theorem walk_MessageAny {v : Value} {w : World} (ho : ∃ A n c, v = .slice A n c ∧ Asks7 w A n) :
    Calls Try.prog 3 #[v] w fun r w' => r = .returned (.bool true) ∧ Below w.heap.size w w' := by
  obtain ⟨A, n, c, rfl, hn, h⟩ := ho
  have HH := hide h
  clear h
  go_enter Try.func3, Try.ntmps3
  refine law_shape (NS := 103) (t := 16) (si := 3) (sr := 2) (n := n) (M0 := [(0, .slice A n c)]) (Frm.start rfl (by intro p hp; simp only [List.mem_cons, List.not_mem_nil, or_false] at hp; subst hp; rfl)) ?_ ?_ ?_ ?_ ?_ ?_ ?_ rfl
  · intro a w Q hM hk
    refine region_last fun K1 QK1 hK1 => ?_
    refine s_val hM (.inl rfl) rfl rfl (ev_move (.inr rfl) rfl) (fun a3 hM2 => ?_)
    clear hM
    refine seg_nil (hK1 _ _ ?_)
    clear hK1 K1 QK1
    have hM4 := hM2.cut1 (t1 := 0) rfl
    clear hM2
    exact hk _ hM4
  · intro a w Q hM hk
    refine region_last fun K5 QK5 hK5 => ?_
    refine s_val hM (.inl rfl) rfl rfl (ev_move (.inr rfl) rfl) (fun a7 hM6 => ?_)
    clear hM
    refine seg_nil (hK5 _ _ ?_)
    clear hK5 K5 QK5
    have hM8 := hM6.cut2 (t1 := 3) (t2 := 0) rfl rfl
    clear hM6
    exact hk _ hM8
  · intro k a w Q hM hk
    have hd1 : decide ((k : Int) < (n : Int)) = decide (k < n) := by rw [decide_eq_decide]; omega
    have hd2 : decide ((k : Int) < 8) = decide (k < 8) := by rw [decide_eq_decide]; omega
    cases e1 : decide (k < n)
    case false =>
      rw [e1] at hd1 hk
      refine region_last fun K9 QK9 hK9 => ?_
      refine s_val hM (.inl rfl) rfl rfl (ev_move (.inl rfl) rfl) (fun a11 hM10 => ?_)
      clear hM
      refine s_val hM10 (.inl rfl) rfl rfl (ev_move (.inl rfl) rfl) (fun a13 hM12 => ?_)
      clear hM10
      refine s_val hM12 (.inl rfl) rfl rfl (ev_len rfl rfl Try.underlying22) (fun a15 hM14 => ?_)
      clear hM12
      refine s_val hM14 (.inl rfl) rfl rfl (ev_bin rfl rfl rfl g_int (b_lss (b := false) hd1)) (fun a17 hM16 => ?_)
      clear hM14
      refine s_val hM16 (.inl rfl) rfl rfl (ev_move (.inl rfl) rfl) (fun a19 hM18 => ?_)
      clear hM16
      refine s_skip hM18 rfl rfl rfl rfl rfl rfl (fun a21 hM20 => ?_)
      clear hM18
      refine s_skip hM20 rfl rfl rfl rfl rfl rfl (fun a23 hM22 => ?_)
      clear hM20
      refine s_val hM22 (.inl rfl) rfl rfl (ev_pick rfl rfl rfl) (fun a25 hM24 => ?_)
      clear hM22
      refine seg_nil (hK9 _ _ ?_)
      clear hK9 K9 QK9
      exact hk _ (hM24.cut2 (t1 := 3) (t2 := 0) rfl rfl) (hM24.ev (t := 16) rfl)
    case true =>
      rw [e1] at hd1 hk
      cases e2 : decide (k < 8)
      case false =>
        rw [e2] at hd2 hk
        refine region_last fun K26 QK26 hK26 => ?_
        refine s_val hM (.inl rfl) rfl rfl (ev_move (.inl rfl) rfl) (fun a28 hM27 => ?_)
        clear hM
        refine s_val hM27 (.inl rfl) rfl rfl (ev_move (.inl rfl) rfl) (fun a30 hM29 => ?_)
        clear hM27
        refine s_val hM29 (.inl rfl) rfl rfl (ev_len rfl rfl Try.underlying22) (fun a32 hM31 => ?_)
        clear hM29
        refine s_val hM31 (.inl rfl) rfl rfl (ev_bin rfl rfl rfl g_int (b_lss (b := true) hd1)) (fun a34 hM33 => ?_)
        clear hM31
        refine s_val hM33 (.inl rfl) rfl rfl (ev_move (.inl rfl) rfl) (fun a36 hM35 => ?_)
        clear hM33
        refine s_val hM35 (.inr ⟨_, _, _, rfl, rfl, rfl⟩) rfl rfl (ev_move (.inl rfl) rfl) (fun a38 hM37 => ?_)
        clear hM35
        refine s_val hM37 (.inr ⟨_, _, _, rfl, rfl, rfl⟩) rfl rfl (ev_bin rfl rfl rfl g_int (b_lss (b := false) hd2)) (fun a40 hM39 => ?_)
        clear hM37
        refine s_val hM39 (.inl rfl) rfl rfl (ev_pick rfl rfl rfl) (fun a42 hM41 => ?_)
        clear hM39
        refine seg_nil (hK26 _ _ ?_)
        clear hK26 K26 QK26
        exact hk _ (hM41.cut2 (t1 := 3) (t2 := 0) rfl rfl) (hM41.ev (t := 16) rfl)
      case true =>
        rw [e2] at hd2 hk
        refine region_last fun K43 QK43 hK43 => ?_
        refine s_val hM (.inl rfl) rfl rfl (ev_move (.inl rfl) rfl) (fun a45 hM44 => ?_)
        clear hM
        refine s_val hM44 (.inl rfl) rfl rfl (ev_move (.inl rfl) rfl) (fun a47 hM46 => ?_)
        clear hM44
        refine s_val hM46 (.inl rfl) rfl rfl (ev_len rfl rfl Try.underlying22) (fun a49 hM48 => ?_)
        clear hM46
        refine s_val hM48 (.inl rfl) rfl rfl (ev_bin rfl rfl rfl g_int (b_lss (b := true) hd1)) (fun a51 hM50 => ?_)
        clear hM48
        refine s_val hM50 (.inl rfl) rfl rfl (ev_move (.inl rfl) rfl) (fun a53 hM52 => ?_)
        clear hM50
        refine s_val hM52 (.inr ⟨_, _, _, rfl, rfl, rfl⟩) rfl rfl (ev_move (.inl rfl) rfl) (fun a55 hM54 => ?_)
        clear hM52
        refine s_val hM54 (.inr ⟨_, _, _, rfl, rfl, rfl⟩) rfl rfl (ev_bin rfl rfl rfl g_int (b_lss (b := true) hd2)) (fun a57 hM56 => ?_)
        clear hM54
        refine s_val hM56 (.inl rfl) rfl rfl (ev_pick rfl rfl rfl) (fun a59 hM58 => ?_)
        clear hM56
        refine seg_nil (hK43 _ _ ?_)
        clear hK43 K43 QK43
        exact hk _ (hM58.cut2 (t1 := 3) (t2 := 0) rfl rfl) (hM58.ev (t := 16) rfl)
  · intro k a w Q hk8 hM hk
    refine region_last fun K60 QK60 hK60 => ?_
    refine s_val hM (.inl rfl) rfl rfl (ev_move (.inl rfl) rfl) (fun a62 hM61 => ?_)
    clear hM
    refine s_val hM61 (.inl rfl) rfl rfl (ev_bin rfl rfl rfl g_int (b_add (r := ((k + 1 : Nat) : Int)) (by omega) (by omega))) (fun a64 hM63 => ?_)
    clear hM61
    refine s_val hM63 (.inl rfl) rfl rfl (ev_move (.inr rfl) rfl) (fun a66 hM65 => ?_)
    clear hM63
    refine seg_nil (hK60 _ _ ?_)
    clear hK60 K60 QK60
    have hM67 := hM65.cut2 (t1 := 3) (t2 := 0) rfl rfl
    clear hM65
    exact hk _ hM67
  · intro k a w1 Q hlt h8 hM HB0 hN hE hR
    obtain ⟨b, off, rfl, hc⟩ := HH.out (by omega)
    obtain ⟨x, v, N, A4, n4, c4, bs, C0, C1, C2, S1, L1, S4, hc4, hm4⟩ := hc k hlt
    obtain ⟨C, HC⟩ : ∃ C : Array Value, Hid (C = msC x v) := ⟨_, rfl⟩
    obtain ⟨PC, HPC⟩ : ∃ C : Array Value, Hid (C = askC x v N (.slice A4 n4 c4)) := ⟨_, rfl⟩
    obtain ⟨ZM, HZM⟩ : ∃ C : Array Value, Hid (C = msC zM zV) := ⟨_, rfl⟩
    obtain ⟨R1, R2⟩ := ask_rng HC.out HPC.out C0 C1 C2
    have HR1 := hide R1
    have HR2 := hide R2
    have HS := hide S1
    have HL := hide L1
    have HZ := hide (MsL.z L1)
    have HX := hide S4
    have HXL := hide S4.blen
    have HX4 := hide (And.intro hc4 hm4)
    clear R1 R2 C0 C1 C2 S1 L1 S4 hc hc4 hm4
    refine wp_seq_k fun K68 hK68 => ?_
    by_cases hlen : 4000 < n4
    case pos =>
      refine region_then fun K69 QK69 hK69 => ?_
      refine s_val hM (.inl rfl) rfl rfl (ev_move (.inl rfl) rfl) (fun a71 hM70 => ?_)
      clear hM
      refine s_val hM70 (.inl rfl) rfl rfl (ev_move (.inl rfl) rfl) (fun a73 hM72 => ?_)
      clear hM70
      refine s_val hM72 (.inl rfl) rfl rfl (ev_idx (b := b) (k := k) (sz := 20) (p := off + k * 20) rfl rfl rfl Try.underlying22 (by kernel_rfl) hlt (by first | rfl | omega)) (fun a75 hM74 => ?_)
      clear hM72
      refine s_val hM74 (.inl rfl) rfl rfl (ev_fldw (m := off + k * 20 + 19) rfl rfl (fun w => by simp [go_sem])) (fun a77 hM76 => ?_)
      clear hM74
      refine s_val hM76 (.inl rfl) rfl rfl (ev_load1 (v := .slice A4 n4 c4) rfl rfl ((HR1.out.below HB0.out).at_ (m := 19) (by rw [HPC.out]; rfl)) (isAgg_no Try.underlying33 rfl)) (fun a79 hM78 => ?_)
      clear hM76
      refine s_val hM78 (.inl rfl) rfl rfl (ev_len rfl rfl Try.underlying33) (fun a81 hM80 => ?_)
      clear hM78
      refine s_val hM80 (.inl rfl) rfl rfl (ev_bin rfl rfl rfl g_int (b_gtr (b := true) (by rw [decide_eq_true_eq]; omega))) (fun a83 hM82 => ?_)
      clear hM80
      refine seg_nil (hK69 _ _ ?_)
      clear hK69 K69 QK69
      have hM84 := hM82.cut3 (t1 := 3) (t2 := 0) (t3 := 25) rfl rfl rfl
      clear hM82
      refine wp_cond_true (hM84.ev (t := 25) rfl) ?_
      refine region_then fun K85 QK85 hK85 => ?_
      refine s_val hM84 (.inl rfl) rfl rfl (ev_move (.inr rfl) rfl) (fun a87 hM86 => ?_)
      clear hM84
      refine seg_nil (hK85 _ _ ?_)
      clear hK85 K85 QK85
      have hM88 := hM86.cut3 (t1 := 3) (t2 := 0) (t3 := 2) rfl rfl rfl
      clear hM86
      refine wp_ret ?_
      exact hR _ _ (hM88.cut1 (t1 := 2) rfl) HB0
    case neg =>
      have HLE : Hid (n4 ≤ 4000) := by rw [Hid]; omega
      clear hlen
      refine region_then fun K89 QK89 hK89 => ?_
      refine s_val hM (.inl rfl) rfl rfl (ev_move (.inl rfl) rfl) (fun a91 hM90 => ?_)
      clear hM
      refine s_val hM90 (.inl rfl) rfl rfl (ev_move (.inl rfl) rfl) (fun a93 hM92 => ?_)
      clear hM90
      refine s_val hM92 (.inl rfl) rfl rfl (ev_idx (b := b) (k := k) (sz := 20) (p := off + k * 20) rfl rfl rfl Try.underlying22 (by kernel_rfl) hlt (by first | rfl | omega)) (fun a95 hM94 => ?_)
      clear hM92
      refine s_val hM94 (.inl rfl) rfl rfl (ev_fldw (m := off + k * 20 + 19) rfl rfl (fun w => by simp [go_sem])) (fun a97 hM96 => ?_)
      clear hM94
      refine s_val hM96 (.inl rfl) rfl rfl (ev_load1 (v := .slice A4 n4 c4) rfl rfl ((HR1.out.below HB0.out).at_ (m := 19) (by rw [HPC.out]; rfl)) (isAgg_no Try.underlying33 rfl)) (fun a99 hM98 => ?_)
      clear hM96
      refine s_val hM98 (.inl rfl) rfl rfl (ev_len rfl rfl Try.underlying33) (fun a101 hM100 => ?_)
      clear hM98
      refine s_val hM100 (.inl rfl) rfl rfl (ev_bin rfl rfl rfl g_int (b_gtr (b := false) (by have := HLE.out; rw [decide_eq_false_iff_not]; omega))) (fun a103 hM102 => ?_)
      clear hM100
      refine seg_nil (hK89 _ _ ?_)
      clear hK89 K89 QK89
      have hM104 := hM102.cut3 (t1 := 3) (t2 := 0) (t3 := 25) rfl rfl rfl
      clear hM102
      refine wp_cond_false (hM104.ev (t := 25) rfl) ?_
      refine wp_skip ?_
      refine hK68 _ _ ?_
      refine region_then fun K105 QK105 hK105 => ?_
      refine s_val hM104 (.inl rfl) rfl rfl (ev_move (.inl rfl) rfl) (fun a107 hM106 => ?_)
      clear hM104
      refine s_val hM106 (.inl rfl) rfl rfl (ev_move (.inl rfl) rfl) (fun a109 hM108 => ?_)
      clear hM106
      refine s_val hM108 (.inl rfl) rfl rfl (ev_idx (b := b) (k := k) (sz := 20) (p := off + k * 20) rfl rfl rfl Try.underlying22 (by kernel_rfl) hlt (by first | rfl | omega)) (fun a111 hM110 => ?_)
      clear hM108
      refine s_val hM110 (.inl rfl) rfl rfl (ev_fldw (m := off + k * 20 + 19) rfl rfl (fun w => by simp [go_sem])) (fun a113 hM112 => ?_)
      clear hM110
      refine s_val hM112 (.inl rfl) rfl rfl (ev_load1 (v := .slice A4 n4 c4) rfl rfl ((HR1.out.below HB0.out).at_ (m := 19) (by rw [HPC.out]; rfl)) (isAgg_no Try.underlying33 rfl)) (fun a115 hM114 => ?_)
      clear hM112
      refine s_call hM114 (.inl rfl) rfl rfl (f := 15) (args := #[.slice A4 n4 c4]) (ev_call hM114 rfl rfl rfl (fun w => by simp [go_sem]) _) (ref0_CopyBytes A4 n4 c4 bs _ (HX.out.below HB0.out) (by have := HLE.out; omega) (by have := HLE.out; omega)) (fun e w116 hp => ?_)
      obtain ⟨v', rfl, ho, hb117⟩ := hp
      obtain ⟨AI, cI, rfl, hI1, hI2⟩ := own_slice_cap ho
      unfold maxLen at hI2
      have HI := hide (Sl.of_own ho)
      have HI4 : Hid (n4 ≤ cI ∧ cI ≤ 9223372036854775807) := ⟨hI1, by omega⟩
      clear ho hI1 hI2
      refine ⟨_, rfl, fun a119 hM118 => ?_⟩
      clear hM114
      have HB120 := hide (below_then HB0.out hb117)
      clear hb117 HB0
      have HB122 : Hid (Below w116.heap.size w116 w116) := Below.refl _ _
      refine s_val hM118 (.inl rfl) rfl rfl (ev_move (.inr rfl) rfl) (fun a124 hM123 => ?_)
      clear hM118
      refine seg_nil (hK105 _ _ ?_)
      clear hK105 K105 QK105
      have hM125 := hM123.cut3 (t1 := 3) (t2 := 0) (t3 := 4) rfl rfl rfl
      clear hM123
      obtain ⟨r, HDE⟩ : ∃ r, Hid (decM N bs = r) := ⟨_, rfl⟩
      cases r
      case none =>
        refine region_then fun K126 QK126 hK126 => ?_
        refine s_val hM125 (.inl rfl) rfl rfl (ev_move (.inl rfl) rfl) (fun a128 hM127 => ?_)
        clear hM125
        refine s_val hM127 (.inl rfl) rfl rfl (ev_move (.inl rfl) rfl) (fun a130 hM129 => ?_)
        clear hM127
        refine s_val hM129 (.inl rfl) rfl rfl (ev_move (.inl rfl) rfl) (fun a132 hM131 => ?_)
        clear hM129
        refine s_val hM131 (.inl rfl) rfl rfl (ev_idx (b := b) (k := k) (sz := 20) (p := off + k * 20) rfl rfl rfl Try.underlying22 (by kernel_rfl) hlt (by first | rfl | omega)) (fun a134 hM133 => ?_)
        clear hM131
        refine s_val hM133 (.inl rfl) rfl rfl (ev_fldw (m := off + k * 20 + 18) rfl rfl (fun w => by simp [go_sem])) (fun a136 hM135 => ?_)
        clear hM133
        refine s_val hM135 (.inl rfl) rfl rfl (ev_load1 (v := .int .i64 N) rfl rfl ((HR1.out.below HB120.out).at_ (m := 18) (by rw [HPC.out]; rfl)) (isAgg_no Try.underlying3 rfl)) (fun a138 hM137 => ?_)
        clear hM135
        refine s_call hM137 (.inl rfl) rfl rfl (f := 16) (args := #[.slice AI n4 cI, .int .i64 N]) (ev_call hM137 rfl rfl rfl (fun w => by simp [go_sem]) _) (message_Decode N _ (HI.out.below HB122.out) HI4.out.1 HI4.out.2 HDE) (fun e w139 hp => ?_)
        obtain ⟨D, u, rfl, hD, hb140⟩ := hp
        have HD : Hid (D = msC zM u) := hD.out.1
        have HSD : Hid (MsS w139 zM u) := hD.out.2.1
        have HZD : Hid (MsZ zM u) := hD.out.2.2
        clear hD
        refine ⟨_, rfl, fun a142 hM141 => ?_⟩
        clear hM137
        have HB143 := hide (below_then HB120.out hb140)
        have HB144 := hide (below_then HB122.out hb140)
        clear hb140 HB120 HB122
        have HB146 : Hid (Below w139.heap.size w139 w139) := Below.refl _ _
        refine s_val hM141 (.inl rfl) rfl rfl (ev_move (.inl rfl) rfl) (fun a148 hM147 => ?_)
        clear hM141
        refine s_val hM147 (.inl rfl) rfl rfl (ev_ext rfl rfl rfl) (fun a150 hM149 => ?_)
        clear hM147
        refine s_val hM149 (.inl rfl) rfl rfl (ev_ext rfl rfl rfl) (fun a152 hM151 => ?_)
        clear hM149
        refine s_new hM151 rfl rfl rfl rfl alloc_msg rfl rfl rfl rfl (by rw [HD.out]; exact Try.infoMsg) (by rw [HD.out]; rfl) (one_msg HD.out) (fun g153 a159 w154 hM158 KB157_ hb155 hg156 => ?_)
        have KB157 := hide KB157_
        clear hM151 KB157_
        have hg156_ : Hid (w139.heap.size ≤ g153) := hg156
        clear hg156
        have HB160 := hide (below_then HB143.out hb155)
        have HB161 := hide (below_then HB144.out hb155)
        have HB162 := hide (below_then HB146.out hb155)
        clear hb155 HB143 HB144 HB146
        have HB164 : Hid (Below w154.heap.size w154 w154) := Below.refl _ _
        refine s_val hM158 (.inl rfl) rfl rfl (ev_move (.inr rfl) rfl) (fun a166 hM165 => ?_)
        clear hM158
        refine seg_nil (hK126 _ _ ?_)
        clear hK126 K126 QK126
        have hM167 := hM165.cut5 (t1 := 3) (t2 := 0) (t3 := 4) (t4 := 5) (t5 := 6) rfl rfl rfl rfl rfl
        clear hM165
        refine wp_seq_k fun K168 hK168 => ?_
        refine region_then fun K169 QK169 hK169 => ?_
        refine s_val hM167 (.inl rfl) rfl rfl (ev_move (.inl rfl) rfl) (fun a171 hM170 => ?_)
        clear hM167
        refine s_val hM170 (.inl rfl) rfl rfl (ev_move (.inl rfl) rfl) (fun a173 hM172 => ?_)
        clear hM170
        refine s_val hM172 (.inl rfl) rfl rfl (ev_move (.inl rfl) rfl) (fun a175 hM174 => ?_)
        clear hM172
        refine s_val hM174 (.inl rfl) rfl rfl (ev_idx (b := b) (k := k) (sz := 20) (p := off + k * 20) rfl rfl rfl Try.underlying22 (by kernel_rfl) hlt (by first | rfl | omega)) (fun a177 hM176 => ?_)
        clear hM174
        refine s_val hM176 (.inl rfl) rfl rfl (ev_fldw (m := off + k * 20 + 19) rfl rfl (fun w => by simp [go_sem])) (fun a179 hM178 => ?_)
        clear hM176
        refine s_val hM178 (.inl rfl) rfl rfl (ev_load1 (v := .slice A4 n4 c4) rfl rfl ((HR1.out.below HB160.out).at_ (m := 19) (by rw [HPC.out]; rfl)) (isAgg_no Try.underlying33 rfl)) (fun a181 hM180 => ?_)
        clear hM178
        refine s_call hM180 (.inl rfl) rfl rfl (f := 17) (args := #[.slice AI n4 cI, .slice A4 n4 c4]) (ev_call hM180 rfl rfl rfl (fun w => by simp [go_sem]) _) (eqBytes_b _ (HI.out.below HB161.out) (by have := HLE.out; omega) (HX.out.below HB160.out) (by have := HLE.out; omega) (r := true) (by simp [Hid])) (fun e w182 hp => ?_)
        obtain ⟨rfl, hb183⟩ := hp
        refine ⟨_, rfl, fun a185 hM184 => ?_⟩
        clear hM180
        have HB186 := hide (below_then HB160.out hb183)
        have HB187 := hide (below_then HB161.out hb183)
        have HB188 := hide (below_then HB162.out hb183)
        have HB189 := hide (below_then HB164.out hb183)
        clear hb183 HB160 HB161 HB162 HB164
        refine s_val hM184 (.inl rfl) rfl rfl (ev_not rfl rfl rfl) (fun a191 hM190 => ?_)
        clear hM184
        refine s_val hM190 (.inl rfl) rfl rfl (ev_move (.inl rfl) rfl) (fun a193 hM192 => ?_)
        clear hM190
        refine s_val hM192 (.inr ⟨_, _, _, rfl, rfl, rfl⟩) rfl rfl (ev_move (.inl rfl) rfl) (fun a195 hM194 => ?_)
        clear hM192
        refine s_call hM194 (.inr ⟨_, _, _, rfl, rfl, rfl⟩) rfl rfl (f := 18) (args := #[.int .i64 1]) (ev_call hM194 rfl rfl rfl (fun w => by simp [go_sem]) _) (law7_num _ _) (fun e w196 hp => ?_)
        obtain ⟨rfl, rfl⟩ := hp
        refine ⟨_, rfl, fun a199 hM198 => ?_⟩
        clear hM194
        refine s_val hM198 (.inr ⟨_, _, _, rfl, rfl, rfl⟩) rfl rfl (ev_bin rfl rfl rfl g_int (b_neq (b := true) (by decide))) (fun a201 hM200 => ?_)
        clear hM198
        refine s_val hM200 (.inr ⟨_, _, _, rfl, rfl, rfl⟩) rfl rfl (ev_move (.inl rfl) rfl) (fun a203 hM202 => ?_)
        clear hM200
        refine s_val hM202 (.inr ⟨_, _, _, rfl, rfl, rfl⟩) rfl rfl (ev_move (.inl rfl) rfl) (fun a205 hM204 => ?_)
        clear hM202
        refine s_call hM204 (.inr ⟨_, _, _, rfl, rfl, rfl⟩) rfl rfl (f := 18) (args := #[.int .i64 1]) (ev_call hM204 rfl rfl rfl (fun w => by simp [go_sem]) _) (law7_num _ _) (fun e w206 hp => ?_)
        obtain ⟨rfl, rfl⟩ := hp
        refine ⟨_, rfl, fun a209 hM208 => ?_⟩
        clear hM204
        refine s_val hM208 (.inr ⟨_, _, _, rfl, rfl, rfl⟩) rfl rfl (ev_bin rfl rfl rfl g_int (b_neq (b := false) (by decide))) (fun a211 hM210 => ?_)
        clear hM208
        refine s_val hM210 (.inr ⟨_, _, _, rfl, rfl, rfl⟩) rfl rfl (ev_move (.inl rfl) rfl) (fun a213 hM212 => ?_)
        clear hM210
        refine s_val hM212 (.inr ⟨_, _, _, rfl, rfl, rfl⟩) rfl rfl (ev_loadm rfl rfl (KB157.out.on HB189.out).rng Try.underlying32 rfl (by rw [HD.out]; exact Try.infoMsg)) (fun a215 hM214 => ?_)
        clear hM212
        refine s_val hM214 (.inr ⟨_, _, _, rfl, rfl, rfl⟩) rfl rfl (build_msg rfl HZM.out) (fun a217 hM216 => ?_)
        clear hM214
        refine s_call hM216 (.inr ⟨_, _, _, rfl, rfl, rfl⟩) rfl rfl (f := 19) (args := #[.agg D, .agg ZM]) (ev_call hM216 rfl rfl rfl (fun w => by simp [go_sem]) _) (ref0_EqMessage zM zM u zV _ (hide (HSD.out.below HB188.out)) HZD (hide (zM_s _)) (hide zM_z) HD HZM (r := true) (by simp [Hid])) (fun e w218 hp => ?_)
        obtain ⟨rfl, hb219⟩ := hp
        refine ⟨_, rfl, fun a221 hM220 => ?_⟩
        clear hM216
        have HB222 := hide (below_then HB186.out hb219)
        have HB223 := hide (below_then HB187.out hb219)
        have HB224 := hide (below_then HB188.out hb219)
        have HB225 := hide (below_then HB189.out hb219)
        clear hb219 HB186 HB187 HB188 HB189
        refine s_val hM220 (.inr ⟨_, _, _, rfl, rfl, rfl⟩) rfl rfl (ev_not rfl rfl rfl) (fun a227 hM226 => ?_)
        clear hM220
        refine s_val hM226 (.inr ⟨_, _, _, rfl, rfl, rfl⟩) rfl rfl (ev_pick rfl rfl rfl) (fun a229 hM228 => ?_)
        clear hM226
        refine s_val hM228 (.inr ⟨_, _, _, rfl, rfl, rfl⟩) rfl rfl (ev_pick rfl rfl rfl) (fun a231 hM230 => ?_)
        clear hM228
        refine s_val hM230 (.inl rfl) rfl rfl (ev_pick rfl rfl rfl) (fun a233 hM232 => ?_)
        clear hM230
        refine seg_nil (hK169 _ _ ?_)
        clear hK169 K169 QK169
        have hM234 := hM232.cut6 (t1 := 3) (t2 := 0) (t3 := 4) (t4 := 5) (t5 := 6) (t6 := 65) rfl rfl rfl rfl rfl rfl
        clear hM232
        refine wp_cond_false (hM234.ev (t := 65) rfl) ?_
        refine wp_skip ?_
        refine hK168 _ _ ?_
        refine region_then fun K235 QK235 hK235 => ?_
        refine s_val hM234 (.inl rfl) rfl rfl (ev_move (.inl rfl) rfl) (fun a237 hM236 => ?_)
        clear hM234
        refine s_call hM236 (.inl rfl) rfl rfl (f := 18) (args := #[.int .i64 1]) (ev_call hM236 rfl rfl rfl (fun w => by simp [go_sem]) _) (law7_num _ _) (fun e w238 hp => ?_)
        obtain ⟨rfl, rfl⟩ := hp
        refine ⟨_, rfl, fun a241 hM240 => ?_⟩
        clear hM236
        refine s_val hM240 (.inl rfl) rfl rfl (ev_bin rfl rfl rfl g_int (b_eql (b := false) (by decide))) (fun a243 hM242 => ?_)
        clear hM240
        refine seg_nil (hK235 _ _ ?_)
        clear hK235 K235 QK235
        have hM244 := hM242.cut5 (t1 := 3) (t2 := 0) (t3 := 4) (t4 := 5) (t5 := 68) rfl rfl rfl rfl rfl
        clear hM242
        refine wp_cond_false (hM244.ev (t := 68) rfl) ?_
        refine wp_skip ?_
        have hM245 := hM244.cut2 (t1 := 3) (t2 := 0) rfl rfl
        clear hM244
        exact hN _ _ hM245 HB222
      case some x =>
        have HMB := hide (decM_back HDE.out).2
        have HM := hide (decM_back HDE.out).1
        refine region_then fun K246 QK246 hK246 => ?_
        refine s_val hM125 (.inl rfl) rfl rfl (ev_move (.inl rfl) rfl) (fun a248 hM247 => ?_)
        clear hM125
        refine s_val hM247 (.inl rfl) rfl rfl (ev_move (.inl rfl) rfl) (fun a250 hM249 => ?_)
        clear hM247
        refine s_val hM249 (.inl rfl) rfl rfl (ev_move (.inl rfl) rfl) (fun a252 hM251 => ?_)
        clear hM249
        refine s_val hM251 (.inl rfl) rfl rfl (ev_idx (b := b) (k := k) (sz := 20) (p := off + k * 20) rfl rfl rfl Try.underlying22 (by kernel_rfl) hlt (by first | rfl | omega)) (fun a254 hM253 => ?_)
        clear hM251
        refine s_val hM253 (.inl rfl) rfl rfl (ev_fldw (m := off + k * 20 + 18) rfl rfl (fun w => by simp [go_sem])) (fun a256 hM255 => ?_)
        clear hM253
        refine s_val hM255 (.inl rfl) rfl rfl (ev_load1 (v := .int .i64 N) rfl rfl ((HR1.out.below HB120.out).at_ (m := 18) (by rw [HPC.out]; rfl)) (isAgg_no Try.underlying3 rfl)) (fun a258 hM257 => ?_)
        clear hM255
        refine s_call hM257 (.inl rfl) rfl rfl (f := 16) (args := #[.slice AI n4 cI, .int .i64 N]) (ev_call hM257 rfl rfl rfl (fun w => by simp [go_sem]) _) (message_Decode N _ (HI.out.below HB122.out) HI4.out.1 HI4.out.2 HDE) (fun e w259 hp => ?_)
        obtain ⟨D, u, rfl, hD, hb260⟩ := hp
        have HD : Hid (D = msC x u) := hD.out.1
        have HSD : Hid (MsS w259 x u) := hD.out.2.1
        have HZD : Hid (MsZ x u) := hD.out.2.2
        clear hD
        refine ⟨_, rfl, fun a262 hM261 => ?_⟩
        clear hM257
        have HB263 := hide (below_then HB120.out hb260)
        have HB264 := hide (below_then HB122.out hb260)
        clear hb260 HB120 HB122
        have HB266 : Hid (Below w259.heap.size w259 w259) := Below.refl _ _
        refine s_val hM261 (.inl rfl) rfl rfl (ev_move (.inl rfl) rfl) (fun a268 hM267 => ?_)
        clear hM261
        refine s_val hM267 (.inl rfl) rfl rfl (ev_ext rfl rfl rfl) (fun a270 hM269 => ?_)
        clear hM267
        refine s_val hM269 (.inl rfl) rfl rfl (ev_ext rfl rfl rfl) (fun a272 hM271 => ?_)
        clear hM269
        refine s_new hM271 rfl rfl rfl rfl alloc_msg rfl rfl rfl rfl (by rw [HD.out]; exact Try.infoMsg) (by rw [HD.out]; rfl) (one_msg HD.out) (fun g273 a279 w274 hM278 KB277_ hb275 hg276 => ?_)
        have KB277 := hide KB277_
        clear hM271 KB277_
        have hg276_ : Hid (w259.heap.size ≤ g273) := hg276
        clear hg276
        have HB280 := hide (below_then HB263.out hb275)
        have HB281 := hide (below_then HB264.out hb275)
        have HB282 := hide (below_then HB266.out hb275)
        clear hb275 HB263 HB264 HB266
        have HB284 : Hid (Below w274.heap.size w274 w274) := Below.refl _ _
        refine s_val hM278 (.inl rfl) rfl rfl (ev_move (.inr rfl) rfl) (fun a286 hM285 => ?_)
        clear hM278
        refine seg_nil (hK246 _ _ ?_)
        clear hK246 K246 QK246
        have hM287 := hM285.cut5 (t1 := 3) (t2 := 0) (t3 := 4) (t4 := 5) (t5 := 6) rfl rfl rfl rfl rfl
        clear hM285
        refine wp_seq_k fun K288 hK288 => ?_
        refine region_then fun K289 QK289 hK289 => ?_
        refine s_val hM287 (.inl rfl) rfl rfl (ev_move (.inl rfl) rfl) (fun a291 hM290 => ?_)
        clear hM287
        refine s_val hM290 (.inl rfl) rfl rfl (ev_move (.inl rfl) rfl) (fun a293 hM292 => ?_)
        clear hM290
        refine s_val hM292 (.inl rfl) rfl rfl (ev_move (.inl rfl) rfl) (fun a295 hM294 => ?_)
        clear hM292
        refine s_val hM294 (.inl rfl) rfl rfl (ev_idx (b := b) (k := k) (sz := 20) (p := off + k * 20) rfl rfl rfl Try.underlying22 (by kernel_rfl) hlt (by first | rfl | omega)) (fun a297 hM296 => ?_)
        clear hM294
        refine s_val hM296 (.inl rfl) rfl rfl (ev_fldw (m := off + k * 20 + 19) rfl rfl (fun w => by simp [go_sem])) (fun a299 hM298 => ?_)
        clear hM296
        refine s_val hM298 (.inl rfl) rfl rfl (ev_load1 (v := .slice A4 n4 c4) rfl rfl ((HR1.out.below HB280.out).at_ (m := 19) (by rw [HPC.out]; rfl)) (isAgg_no Try.underlying33 rfl)) (fun a301 hM300 => ?_)
        clear hM298
        refine s_call hM300 (.inl rfl) rfl rfl (f := 17) (args := #[.slice AI n4 cI, .slice A4 n4 c4]) (ev_call hM300 rfl rfl rfl (fun w => by simp [go_sem]) _) (eqBytes_b _ (HI.out.below HB281.out) (by have := HLE.out; omega) (HX.out.below HB280.out) (by have := HLE.out; omega) (r := true) (by simp [Hid])) (fun e w302 hp => ?_)
        obtain ⟨rfl, hb303⟩ := hp
        refine ⟨_, rfl, fun a305 hM304 => ?_⟩
        clear hM300
        have HB306 := hide (below_then HB280.out hb303)
        have HB307 := hide (below_then HB281.out hb303)
        have HB308 := hide (below_then HB282.out hb303)
        have HB309 := hide (below_then HB284.out hb303)
        clear hb303 HB280 HB281 HB282 HB284
        refine s_val hM304 (.inl rfl) rfl rfl (ev_not rfl rfl rfl) (fun a311 hM310 => ?_)
        clear hM304
        refine s_val hM310 (.inl rfl) rfl rfl (ev_move (.inl rfl) rfl) (fun a313 hM312 => ?_)
        clear hM310
        refine s_val hM312 (.inr ⟨_, _, _, rfl, rfl, rfl⟩) rfl rfl (ev_move (.inl rfl) rfl) (fun a315 hM314 => ?_)
        clear hM312
        refine s_call hM314 (.inr ⟨_, _, _, rfl, rfl, rfl⟩) rfl rfl (f := 18) (args := #[.int .i64 0]) (ev_call hM314 rfl rfl rfl (fun w => by simp [go_sem]) _) (law7_num _ _) (fun e w316 hp => ?_)
        obtain ⟨rfl, rfl⟩ := hp
        refine ⟨_, rfl, fun a319 hM318 => ?_⟩
        clear hM314
        refine s_val hM318 (.inr ⟨_, _, _, rfl, rfl, rfl⟩) rfl rfl (ev_bin rfl rfl rfl g_int (b_neq (b := false) (by decide))) (fun a321 hM320 => ?_)
        clear hM318
        refine s_val hM320 (.inr ⟨_, _, _, rfl, rfl, rfl⟩) rfl rfl (ev_move (.inl rfl) rfl) (fun a323 hM322 => ?_)
        clear hM320
        refine s_skip hM322 rfl rfl rfl rfl rfl rfl (fun a325 hM324 => ?_)
        clear hM322
        refine s_skip hM324 rfl rfl rfl rfl rfl rfl (fun a327 hM326 => ?_)
        clear hM324
        refine s_skip hM326 rfl rfl rfl rfl rfl rfl (fun a329 hM328 => ?_)
        clear hM326
        refine s_skip hM328 rfl rfl rfl rfl rfl rfl (fun a331 hM330 => ?_)
        clear hM328
        refine s_skipu hM330 rfl rfl rfl rfl rfl (fun a333 hM332 => ?_)
        clear hM330
        refine s_skipu hM332 rfl rfl rfl rfl rfl (fun a335 hM334 => ?_)
        clear hM332
        refine s_skipu hM334 rfl rfl rfl rfl rfl (fun a337 hM336 => ?_)
        clear hM334
        refine s_skipu hM336 rfl rfl rfl rfl rfl (fun a339 hM338 => ?_)
        clear hM336
        refine s_skip hM338 rfl rfl rfl rfl rfl rfl (fun a341 hM340 => ?_)
        clear hM338
        refine s_val hM340 (.inr ⟨_, _, _, rfl, rfl, rfl⟩) rfl rfl (ev_pick rfl rfl rfl) (fun a343 hM342 => ?_)
        clear hM340
        refine s_val hM342 (.inl rfl) rfl rfl (ev_pick rfl rfl rfl) (fun a345 hM344 => ?_)
        clear hM342
        refine seg_nil (hK289 _ _ ?_)
        clear hK289 K289 QK289
        have hM346 := hM344.cut6 (t1 := 3) (t2 := 0) (t3 := 4) (t4 := 5) (t5 := 6) (t6 := 65) rfl rfl rfl rfl rfl rfl
        clear hM344
        refine wp_cond_false (hM346.ev (t := 65) rfl) ?_
        refine wp_skip ?_
        refine hK288 _ _ ?_
        refine region_then fun K347 QK347 hK347 => ?_
        refine s_val hM346 (.inl rfl) rfl rfl (ev_move (.inl rfl) rfl) (fun a349 hM348 => ?_)
        clear hM346
        refine s_call hM348 (.inl rfl) rfl rfl (f := 18) (args := #[.int .i64 0]) (ev_call hM348 rfl rfl rfl (fun w => by simp [go_sem]) _) (law7_num _ _) (fun e w350 hp => ?_)
        obtain ⟨rfl, rfl⟩ := hp
        refine ⟨_, rfl, fun a353 hM352 => ?_⟩
        clear hM348
        refine s_val hM352 (.inl rfl) rfl rfl (ev_bin rfl rfl rfl g_int (b_eql (b := true) (by decide))) (fun a355 hM354 => ?_)
        clear hM352
        refine seg_nil (hK347 _ _ ?_)
        clear hK347 K347 QK347
        have hM356 := hM354.cut5 (t1 := 3) (t2 := 0) (t3 := 4) (t4 := 5) (t5 := 68) rfl rfl rfl rfl rfl
        clear hM354
        refine wp_cond_true (hM356.ev (t := 68) rfl) ?_
        refine h_open 12 rfl (by kernel_rfl) fun K357 w358 hb359 hK357 => ?_
        have HB360 := hide (below_then HB306.out hb359)
        have HB361 := hide (below_then HB307.out hb359)
        have HB362 := hide (below_then HB308.out hb359)
        have HB363 := hide (below_then HB309.out hb359)
        clear hb359 HB306 HB307 HB308 HB309
        have hS364 : Below w358.heap.size w358 w358 := Below.refl _ _
        refine h_val 0 rfl (by kernel_rfl) (by kernel_rfl) (by kernel_rfl) hM356 (.inl rfl) rfl rfl hS364 (fun w' hr => (ev_loadm rfl rfl ((KB277.out.on HB363.out).on hr).rng Try.underlying32 rfl (by rw [HD.out]; exact Try.infoMsg))) (fun a366 hM365 => ?_)
        clear hM356
        refine h_val 1 rfl (by kernel_rfl) (by kernel_rfl) (by kernel_rfl) hM365 (.inl rfl) rfl rfl hS364 (fun w' hr => (ev_move (.inl rfl) rfl)) (fun a368 hM367 => ?_)
        clear hM365
        refine h_val 2 rfl (by kernel_rfl) (by kernel_rfl) (by kernel_rfl) hM367 (.inl rfl) rfl rfl hS364 (fun w' hr => (ev_move (.inl rfl) rfl)) (fun a370 hM369 => ?_)
        clear hM367
        refine h_val 3 rfl (by kernel_rfl) (by kernel_rfl) (by kernel_rfl) hM369 (.inl rfl) rfl rfl hS364 (fun w' hr => (ev_idx (b := b) (k := k) (sz := 20) (p := off + k * 20) rfl rfl rfl Try.underlying22 (by kernel_rfl) hlt (by first | rfl | omega))) (fun a372 hM371 => ?_)
        clear hM369
        refine h_val 4 rfl (by kernel_rfl) (by kernel_rfl) (by kernel_rfl) hM371 (.inl rfl) rfl rfl hS364 (fun w' hr => (ev_fldw (m := off + k * 20 + 18) rfl rfl (fun w => by simp [go_sem]))) (fun a374 hM373 => ?_)
        clear hM371
        refine h_val 5 rfl (by kernel_rfl) (by kernel_rfl) (by kernel_rfl) hM373 (.inl rfl) rfl rfl hS364 (fun w' hr => (ev_load1 (v := .int .i64 N) rfl rfl (((HR1.out.below HB360.out).below hr).at_ (m := 18) (by rw [HPC.out]; rfl)) (isAgg_no Try.underlying3 rfl))) (fun a376 hM375 => ?_)
        clear hM373
        refine h_call 6 rfl (by kernel_rfl) hM375 (.inl rfl) rfl rfl (f := 20) (args := #[.agg D, .int .i64 N]) (ev_call hM375 rfl rfl rfl (fun w => by simp [go_sem]) _) (message_Encode N x u _ (hide (HSD.out.below HB362.out)) HZD HD HM) (fun e w377 hp => ?_)
        obtain ⟨v', rfl, ho, hb378⟩ := hp
        obtain ⟨AO, cO, rfl, hO1, hO2⟩ := own_slice_cap ho
        have HO := hide (Sl.of_own ho)
        clear ho hO1 hO2
        simp only [if_true] at HO
        have hS381 := s_in hS364 hb378
        refine ⟨_, rfl, fun a380 hM379 => ⟨hS381, ?_⟩⟩
        clear hM375
        have HB382 := hide (below_then HB360.out hb378)
        have HB383 := hide (below_then HB361.out hb378)
        have HB384 := hide (below_then HB362.out hb378)
        have HB385 := hide (below_then HB363.out hb378)
        clear hb378
        have HB387 : Hid (Below w377.heap.size w377 w377) := Below.refl _ _
        refine h_val 7 rfl (by kernel_rfl) (by kernel_rfl) (by kernel_rfl) hM379 (.inl rfl) rfl rfl hS381 (fun w' hr => (ev_move (.inl rfl) rfl)) (fun a389 hM388 => ?_)
        clear hM379
        refine h_val 8 rfl (by kernel_rfl) (by kernel_rfl) (by kernel_rfl) hM388 (.inl rfl) rfl rfl hS381 (fun w' hr => (ev_ext rfl rfl rfl)) (fun a391 hM390 => ?_)
        clear hM388
        refine h_val 9 rfl (by kernel_rfl) (by kernel_rfl) (by kernel_rfl) hM390 (.inl rfl) rfl rfl hS381 (fun w' hr => (ev_ext rfl rfl rfl)) (fun a393 hM392 => ?_)
        clear hM390
        refine h_val 10 rfl (by kernel_rfl) (by kernel_rfl) (by kernel_rfl) hM392 (.inl rfl) rfl rfl hS381 (fun w' hr => (ev_move (.inr rfl) rfl)) (fun a395 hM394 => ?_)
        clear hM392
        refine h_val 11 rfl (by kernel_rfl) (by kernel_rfl) (by kernel_rfl) hM394 (.inl rfl) rfl rfl hS381 (fun w' hr => (ev_move (.inr rfl) rfl)) (fun a397 hM396 => ?_)
        clear hM394
        refine h_nil (by kernel_rfl) (hK357 _ _ ?_)
        clear hK357 K357 hS381 HB360 HB361 HB362 HB363
        have hM398 := hM396.cut6 (t1 := 3) (t2 := 0) (t3 := 4) (t4 := 5) (t5 := 7) (t6 := 8) rfl rfl rfl rfl rfl rfl
        clear hM396
        refine q_open (by kernel_rfl) (by kernel_rfl) fun K399 hK399 => ?_
        refine q_val hM398 (.inl rfl) rfl rfl (fun m => (ev_move (.inl rfl) rfl)) (fun a401 hM400 => ?_)
        clear hM398
        refine q_call hM400 (.inl rfl) rfl rfl (f := 18) (args := #[.int .i64 0]) (v := .int .i64 0) (ev_call hM400 rfl rfl rfl (fun w => by simp [go_sem])) (fun m => wd_same (law7_num _ _)) (fun a403 hM402 => ?_)
        clear hM400
        refine q_val hM402 (.inl rfl) rfl rfl (fun m => (ev_bin rfl rfl rfl g_int (b_neq (b := false) (by decide)))) (fun a405 hM404 => ?_)
        clear hM402
        refine q_val hM404 (.inl rfl) rfl rfl (fun m => (ev_move (.inl rfl) rfl)) (fun a407 hM406 => ?_)
        clear hM404
        refine q_val hM406 (.inr ⟨_, _, _, rfl, rfl, rfl⟩) rfl rfl (fun m => (ev_move (.inl rfl) rfl)) (fun a409 hM408 => ?_)
        clear hM406
        refine q_val hM408 (.inr ⟨_, _, _, rfl, rfl, rfl⟩) rfl rfl (fun m => (ev_move (.inl rfl) rfl)) (fun a411 hM410 => ?_)
        clear hM408
        refine q_val hM410 (.inr ⟨_, _, _, rfl, rfl, rfl⟩) rfl rfl (fun m => (ev_move (.inl rfl) rfl)) (fun a413 hM412 => ?_)
        clear hM410
        refine q_val hM412 (.inr ⟨_, _, _, rfl, rfl, rfl⟩) rfl rfl (fun m => (ev_idx (b := b) (k := k) (sz := 20) (p := off + k * 20) rfl rfl rfl Try.underlying22 (by kernel_rfl) hlt (by first | rfl | omega))) (fun a415 hM414 => ?_)
        clear hM412
        refine q_val hM414 (.inr ⟨_, _, _, rfl, rfl, rfl⟩) rfl rfl (fun m => (ev_fldw (m := off + k * 20 + 19) rfl rfl (fun w => by simp [go_sem]))) (fun a417 hM416 => ?_)
        clear hM414
        refine q_val hM416 (.inr ⟨_, _, _, rfl, rfl, rfl⟩) rfl rfl (fun m => (ev_load1 (v := .slice A4 n4 c4) rfl rfl (((HR1.out.below HB382.out).below (Wd.below m)).at_ (m := 19) (by rw [HPC.out]; rfl)) (isAgg_no Try.underlying33 rfl))) (fun a419 hM418 => ?_)
        clear hM416
        refine q_call hM418 (.inr ⟨_, _, _, rfl, rfl, rfl⟩) rfl rfl (f := 17) (args := #[.slice AO ((if true then (msgB x).length else 0)) cO, .slice A4 n4 c4]) (v := .bool true) (ev_call hM418 rfl rfl rfl (fun w => by simp [go_sem])) (fun m => wd_call (eqBytes_b _ ((HO.out.below HB387.out).below (Wd.below m)) (by have := HLE.out; have := HXL.out; simp [HMB.out]; omega) ((HX.out.below HB382.out).below (Wd.below m)) (by have := HLE.out; omega) (r := true) (by rw [HMB.out]; simp [Hid]))) (fun a421 hM420 => ?_)
        clear hM418
        refine q_val hM420 (.inr ⟨_, _, _, rfl, rfl, rfl⟩) rfl rfl (fun m => (ev_not rfl rfl rfl)) (fun a423 hM422 => ?_)
        clear hM420
        refine q_val hM422 (.inl rfl) rfl rfl (fun m => (ev_pick rfl rfl rfl)) (fun a425 hM424 => ?_)
        clear hM422
        refine q_val hM424 (.inl rfl) rfl rfl (fun m => (ev_move (.inl rfl) rfl)) (fun a427 hM426 => ?_)
        clear hM424
        refine q_val hM426 (.inr ⟨_, _, _, rfl, rfl, rfl⟩) rfl rfl (fun m => (ev_loadm rfl rfl ((KB277.out.on HB385.out).on (Wd.below m)).rng Try.underlying32 rfl (by rw [HD.out]; exact Try.infoMsg))) (fun a429 hM428 => ?_)
        clear hM426
        refine q_val hM428 (.inr ⟨_, _, _, rfl, rfl, rfl⟩) rfl rfl (fun m => (ev_move (.inl rfl) rfl)) (fun a431 hM430 => ?_)
        clear hM428
        refine q_val hM430 (.inr ⟨_, _, _, rfl, rfl, rfl⟩) rfl rfl (fun m => (ev_move (.inl rfl) rfl)) (fun a433 hM432 => ?_)
        clear hM430
        refine q_val hM432 (.inr ⟨_, _, _, rfl, rfl, rfl⟩) rfl rfl (fun m => (ev_idx (b := b) (k := k) (sz := 20) (p := off + k * 20) rfl rfl rfl Try.underlying22 (by kernel_rfl) hlt (by first | rfl | omega))) (fun a435 hM434 => ?_)
        clear hM432
        refine q_val hM434 (.inr ⟨_, _, _, rfl, rfl, rfl⟩) rfl rfl (fun m => (ev_fldw (m := off + k * 20 + 18) rfl rfl (fun w => by simp [go_sem]))) (fun a437 hM436 => ?_)
        clear hM434
        refine q_val hM436 (.inr ⟨_, _, _, rfl, rfl, rfl⟩) rfl rfl (fun m => (ev_load1 (v := .int .i64 N) rfl rfl (((HR1.out.below HB382.out).below (Wd.below m)).at_ (m := 18) (by rw [HPC.out]; rfl)) (isAgg_no Try.underlying3 rfl))) (fun a439 hM438 => ?_)
        clear hM436
        refine q_call hM438 (.inr ⟨_, _, _, rfl, rfl, rfl⟩) rfl rfl (f := 21) (args := #[.agg D, .int .i64 N]) (v := .bool true) (ev_call hM438 rfl rfl rfl (fun w => by simp [go_sem])) (fun m => wd_call (ref4_Message N x u _ (hide ((HSD.out.below HB384.out).below (Wd.below m))) HZD HD HM)) (fun a441 hM440 => ?_)
        clear hM438
        refine q_val hM440 (.inr ⟨_, _, _, rfl, rfl, rfl⟩) rfl rfl (fun m => (ev_not rfl rfl rfl)) (fun a443 hM442 => ?_)
        clear hM440
        refine q_val hM442 (.inl rfl) rfl rfl (fun m => (ev_pick rfl rfl rfl)) (fun a445 hM444 => ?_)
        clear hM442
        refine wpQuiet_nil (hK399 _ fun w446 hb447 => ?_)
        clear hK399 K399
        have HB448 := hide (below_then HB382.out hb447)
        have HB449 := hide (below_then HB383.out hb447)
        have HB450 := hide (below_then HB384.out hb447)
        have HB451 := hide (below_then HB385.out hb447)
        have HB452 := hide (below_then HB387.out hb447)
        clear hb447 HB382 HB383 HB384 HB385 HB387
        have hM453 := hM444.cut3 (t1 := 3) (t2 := 0) (t3 := 101) rfl rfl rfl
        clear hM444
        refine wp_cond_false (hM453.ev (t := 101) rfl) ?_
        refine wp_skip ?_
        have hM454 := hM453.cut2 (t1 := 3) (t2 := 0) rfl rfl
        clear hM453
        exact hN _ _ hM454 HB448
  · intro a w1 Q hM HB0 hk
    refine region_last fun K455 QK455 hK455 => ?_
    refine s_call hM (.inl rfl) rfl rfl (f := 22) (args := #[]) (ev_call hM rfl rfl rfl (fun w => by simp [go_sem]) _) (law7_wakes _) (fun e w456 hp => ?_)
    obtain ⟨rfl, hb457⟩ := hp
    refine ⟨_, rfl, fun a459 hM458 => ?_⟩
    clear hM
    have HB460 := hide (below_then HB0.out hb457)
    clear hb457 HB0
    refine s_val hM458 (.inl rfl) rfl rfl (ev_move (.inr rfl) rfl) (fun a462 hM461 => ?_)
    clear hM458
    refine seg_nil (hK455 _ _ ?_)
    clear hK455 K455 QK455
    have hM463 := hM461.cut1 (t1 := 2) rfl
    clear hM461
    exact hk _ _ hM463 HB460
  · intro a w1 hM HB
    refine bodyPost_ret (results_tmp rfl _ _ _) hM.2.1 ?_
    rw [show a.tmps.getD 2 undef = .bool true from hM.ev (t := 2) rfl]
    exact ⟨rfl, HB.out⟩
end Go.Proofs.Ytmnogefpphonlaa
