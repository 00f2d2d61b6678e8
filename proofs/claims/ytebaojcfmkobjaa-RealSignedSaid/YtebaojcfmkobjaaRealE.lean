/-
  Small words of the laws of layer 8: num, heavy.
-/
import Derived.Test.YtebaojcfmkobjaaRealD
import Derived.Test.YtebaojcfmkobjaaGr26
import Derived.Test.YtebaojcfmkobjaaGr21
set_option linter.unusedVariables false
set_option linter.unusedSimpArgs false
namespace Go.Proofs.Ytebaojcfmkobjaa
open Go.RowKit

theorem info_scr : (Try.prog.info? 26).map (·.size) = some 6 := by kernel_rfl
set_option maxHeartbeats 400000 in
theorem law8_num (n : Int) (w : World) : Calls Try.prog 19 #[.int .i64 n] w fun e w' => e = .returned (.int .i64 n) ∧ w = w' := by
  go_enter Try.func19, Try.ntmps19
  go_wp2_with fail
  go_ret
  exact ⟨rfl, rfl⟩
/-- The first twelve messages are light; few liars, few signings. -/
structure LightS (s : ScV) (xs : List (MsD × MsV)) : Prop where
  l : ∀ k x v, k < 12 → xs[k]? = some (x, v) → decide (2000 < msW x v) = false
  li : s.li.n ≤ 100
  wo : s.wo.n ≤ 200
  wi : s.wi.n ≤ 200

set_option maxRecDepth 100000 in
set_option maxHeartbeats 4000000 in
theorem law8_heavy (N : Int) (s : ScV) (ls : List Int) (xs : List (MsD × MsV)) (pb : List Bool) (who wch : List Int) (w : World) (HS : Hid (Scr w s ls xs pb who wch)) (HZ : Hid (ScZ s who wch)) {C : Array Value} (HC : Hid (C = scC N s)) :
    Calls Try.prog 15 #[.agg C] w fun e w' => Ans (fun r => r = false → LightS s xs) e ∧ Below w.heap.size w w' := by

  go_enter Try.func15, Try.ntmps15
  refine act_off 37 [(0, .agg C)] (Frm.start rfl (by intro p hp; simp only [List.mem_cons, List.not_mem_nil, or_false] at hp; subst hp; rfl)) (fun a0 hM => ?_)
  have HB2 : Hid (Below w.heap.size w w) := Below.refl _ _
  refine region_then fun K3 QK3 hK3 => ?_
  refine s_alloc (e := 26) hM (.inl rfl) rfl rfl (V := fun g => .pointer (some ⟨g, 0, none⟩)) (ev_box hM rfl rfl) (fun g4 a10 w5 hM9 KB8_ hb6 hg7 => ?_)
  have KB8 := hide KB8_
  clear hM KB8_
  clear hg7
  have HB11 := hide (below_then HB2.out hb6)
  clear hb6 HB2
  have HB13 : Hid (Below w5.heap.size w5 w5) := Below.refl _ _
  refine s_val hM9 (.inl rfl) rfl rfl (ev_move (.inr rfl) rfl) (fun a15 hM14 => ?_)
  clear hM9
  refine seg_nil (hK3 _ _ ?_)
  clear hK3 K3 QK3
  have hM16 := hM14.cut1 (t1 := 1) rfl
  clear hM14
  refine wp_seq_k fun K17 hK17 => ?_
  refine region_then fun K18 QK18 hK18 => ?_
  refine s_val hM16 (.inl rfl) rfl rfl (ev_move (.inr rfl) rfl) (fun a20 hM19 => ?_)
  clear hM16
  refine seg_nil (hK18 _ _ ?_)
  clear hK18 K18 QK18
  have hM21 := hM19.cut2 (t1 := 1) (t2 := 3) rfl rfl
  clear hM19
  have hM22 := hM21.cut2 (t1 := 3) (t2 := 1) rfl rfl
  clear hM21
  refine wp_block ?_
  refine wp_loop_ghost (fun m a w' => ∃ (j : Nat), m = s.l.n - j ∧ Frm a 37 [(3, .int .i64 (j : Int)), (1, .pointer (some ⟨g4, 0, none⟩))] ∧ Hid (Below w.heap.size w w') ∧ Hid (Below w5.heap.size w5 w') ∧ Hid (∀ k x v, k < j → xs[k]? = some (x, v) → decide (2000 < msW x v) = false)) s.l.n ⟨0,  by omega, hM22, HB11, HB13, (fun k x v h => absurd h (by omega))⟩ ?_
  clear HB11 HB13 hM22
  rintro m28 a24 w23 ⟨j, rfl, hM25, HB26, HB27, HX⟩
  refine wp_seq_k fun K29 hK29 => ?_
  by_cases hlt : j < s.l.n
  case neg =>
    have HLT : Hid (∀ k x v, k < 12 → xs[k]? = some (x, v) → decide (2000 < msW x v) = false) := fun k x v hk hx => HX.out k x v (by have := lt_of_at hx; rw [((HS.out.below HB26.out)).l.1] at this; omega) hx
    refine region_then fun K30 QK30 hK30 => ?_
    refine s_val hM25 (.inl rfl) rfl rfl (ev_move (.inl rfl) rfl) (fun a32 hM31 => ?_)
    clear hM25
    refine s_val hM31 (.inl rfl) rfl rfl (ev_fldw (m := 2) rfl rfl (fun w => by simp [go_sem])) (fun a34 hM33 => ?_)
    clear hM31
    refine s_val hM33 (.inl rfl) rfl rfl (ev_load1 (v := .slice (s.l.A) (s.l.n) (s.l.c)) rfl rfl ((KB8.out.on HB27.out).rng.at_ (m := 2) (by rw [HC.out]; rfl)) (isAgg_no Try.underlying23 rfl)) (fun a36 hM35 => ?_)
    clear hM33
    refine s_val hM35 (.inl rfl) rfl rfl (ev_len rfl rfl Try.underlying23) (fun a38 hM37 => ?_)
    clear hM35
    refine s_val hM37 (.inl rfl) rfl rfl (ev_bin rfl rfl rfl g_int (b_lss (b := false) (by rw [decide_eq_false_iff_not]; omega))) (fun a40 hM39 => ?_)
    clear hM37
    refine s_val hM39 (.inl rfl) rfl rfl (ev_move (.inl rfl) rfl) (fun a42 hM41 => ?_)
    clear hM39
    refine s_skip hM41 rfl rfl rfl rfl rfl rfl (fun a44 hM43 => ?_)
    clear hM41
    refine s_skip hM43 rfl rfl rfl rfl rfl rfl (fun a46 hM45 => ?_)
    clear hM43
    refine s_val hM45 (.inl rfl) rfl rfl (ev_pick rfl rfl rfl) (fun a48 hM47 => ?_)
    clear hM45
    refine seg_nil (hK30 _ _ ?_)
    clear hK30 K30 QK30
    have hM49 := hM47.cut3 (t1 := 1) (t2 := 3) (t3 := 12) rfl rfl rfl
    clear hM47
    refine wp_cond_false (hM49.ev (t := 12) rfl) ?_
    refine wp_exit ?_
    repeat (with_reducible refine th_e ?_)
    refine inb_e ?_
    refine hK17 _ _ ?_
    obtain ⟨q1, H1⟩ : ∃ q, Hid (decide (100 < (s.li.n : Int)) = q) := ⟨_, rfl⟩
    obtain ⟨q2, H2⟩ : ∃ q, Hid (decide (200 < (s.wo.n : Int)) = q) := ⟨_, rfl⟩
    obtain ⟨q3, H3⟩ : ∃ q, Hid (decide (200 < (s.wi.n : Int)) = q) := ⟨_, rfl⟩
    cases q1
    case true =>
      have HRES : Hid (true = false → LightS s xs) := fun h => (by cases h)
      refine region_then fun K50 QK50 hK50 => ?_
      refine s_val hM49 (.inl rfl) rfl rfl (ev_fldw (m := 1) rfl rfl (fun w => by simp [go_sem])) (fun a52 hM51 => ?_)
      clear hM49
      refine s_val hM51 (.inl rfl) rfl rfl (ev_load1 (v := .slice (s.li.A) (s.li.n) (s.li.c)) rfl rfl ((KB8.out.on HB27.out).rng.at_ (m := 1) (by rw [HC.out]; rfl)) (isAgg_no Try.underlying22 rfl)) (fun a54 hM53 => ?_)
      clear hM51
      refine s_val hM53 (.inl rfl) rfl rfl (ev_len rfl rfl Try.underlying22) (fun a56 hM55 => ?_)
      clear hM53
      refine s_val hM55 (.inl rfl) rfl rfl (ev_bin rfl rfl rfl g_int (b_gtr (b := true) H1.out)) (fun a58 hM57 => ?_)
      clear hM55
      refine s_val hM57 (.inl rfl) rfl rfl (ev_move (.inl rfl) rfl) (fun a60 hM59 => ?_)
      clear hM57
      refine s_skip hM59 rfl rfl rfl rfl rfl rfl (fun a62 hM61 => ?_)
      clear hM59
      refine s_skip hM61 rfl rfl rfl rfl rfl rfl (fun a64 hM63 => ?_)
      clear hM61
      refine s_skip hM63 rfl rfl rfl rfl rfl rfl (fun a66 hM65 => ?_)
      clear hM63
      refine s_skip hM65 rfl rfl rfl rfl rfl rfl (fun a68 hM67 => ?_)
      clear hM65
      refine s_val hM67 (.inl rfl) rfl rfl (ev_pick rfl rfl rfl) (fun a70 hM69 => ?_)
      clear hM67
      refine s_val hM69 (.inl rfl) rfl rfl (ev_move (.inl rfl) rfl) (fun a72 hM71 => ?_)
      clear hM69
      refine s_skip hM71 rfl rfl rfl rfl rfl rfl (fun a74 hM73 => ?_)
      clear hM71
      refine s_skip hM73 rfl rfl rfl rfl rfl rfl (fun a76 hM75 => ?_)
      clear hM73
      refine s_skip hM75 rfl rfl rfl rfl rfl rfl (fun a78 hM77 => ?_)
      clear hM75
      refine s_skip hM77 rfl rfl rfl rfl rfl rfl (fun a80 hM79 => ?_)
      clear hM77
      refine s_val hM79 (.inl rfl) rfl rfl (ev_pick rfl rfl rfl) (fun a82 hM81 => ?_)
      clear hM79
      refine s_val hM81 (.inl rfl) rfl rfl (ev_move (.inr rfl) rfl) (fun a84 hM83 => ?_)
      clear hM81
      refine seg_nil (hK50 _ _ ?_)
      clear hK50 K50 QK50
      have hM85 := hM83.cut1 (t1 := 2) rfl
      clear hM83
      refine wp_ret ?_
      repeat (with_reducible first | refine th_r ?_ | refine inb_r ?_ | refine js_r ?_)
      refine ret_of (t := 2) rfl hM85 rfl ?_
      exact ⟨⟨_, rfl, HRES.out⟩, HB26.out⟩
    case false =>
      cases q2
      case true =>
        have HRES : Hid (true = false → LightS s xs) := fun h => (by cases h)
        refine region_then fun K86 QK86 hK86 => ?_
        refine s_val hM49 (.inl rfl) rfl rfl (ev_fldw (m := 1) rfl rfl (fun w => by simp [go_sem])) (fun a88 hM87 => ?_)
        clear hM49
        refine s_val hM87 (.inl rfl) rfl rfl (ev_load1 (v := .slice (s.li.A) (s.li.n) (s.li.c)) rfl rfl ((KB8.out.on HB27.out).rng.at_ (m := 1) (by rw [HC.out]; rfl)) (isAgg_no Try.underlying22 rfl)) (fun a90 hM89 => ?_)
        clear hM87
        refine s_val hM89 (.inl rfl) rfl rfl (ev_len rfl rfl Try.underlying22) (fun a92 hM91 => ?_)
        clear hM89
        refine s_val hM91 (.inl rfl) rfl rfl (ev_bin rfl rfl rfl g_int (b_gtr (b := false) H1.out)) (fun a94 hM93 => ?_)
        clear hM91
        refine s_val hM93 (.inl rfl) rfl rfl (ev_move (.inl rfl) rfl) (fun a96 hM95 => ?_)
        clear hM93
        refine s_val hM95 (.inr ⟨_, _, _, rfl, rfl, rfl⟩) rfl rfl (ev_fldw (m := 4) rfl rfl (fun w => by simp [go_sem])) (fun a98 hM97 => ?_)
        clear hM95
        refine s_val hM97 (.inr ⟨_, _, _, rfl, rfl, rfl⟩) rfl rfl (ev_load1 (v := .slice (s.wo.A) (s.wo.n) (s.wo.c)) rfl rfl ((KB8.out.on HB27.out).rng.at_ (m := 4) (by rw [HC.out]; rfl)) (isAgg_no Try.underlying22 rfl)) (fun a100 hM99 => ?_)
        clear hM97
        refine s_val hM99 (.inr ⟨_, _, _, rfl, rfl, rfl⟩) rfl rfl (ev_len rfl rfl Try.underlying22) (fun a102 hM101 => ?_)
        clear hM99
        refine s_val hM101 (.inr ⟨_, _, _, rfl, rfl, rfl⟩) rfl rfl (ev_bin rfl rfl rfl g_int (b_gtr (b := true) H2.out)) (fun a104 hM103 => ?_)
        clear hM101
        refine s_val hM103 (.inl rfl) rfl rfl (ev_pick rfl rfl rfl) (fun a106 hM105 => ?_)
        clear hM103
        refine s_val hM105 (.inl rfl) rfl rfl (ev_move (.inl rfl) rfl) (fun a108 hM107 => ?_)
        clear hM105
        refine s_skip hM107 rfl rfl rfl rfl rfl rfl (fun a110 hM109 => ?_)
        clear hM107
        refine s_skip hM109 rfl rfl rfl rfl rfl rfl (fun a112 hM111 => ?_)
        clear hM109
        refine s_skip hM111 rfl rfl rfl rfl rfl rfl (fun a114 hM113 => ?_)
        clear hM111
        refine s_skip hM113 rfl rfl rfl rfl rfl rfl (fun a116 hM115 => ?_)
        clear hM113
        refine s_val hM115 (.inl rfl) rfl rfl (ev_pick rfl rfl rfl) (fun a118 hM117 => ?_)
        clear hM115
        refine s_val hM117 (.inl rfl) rfl rfl (ev_move (.inr rfl) rfl) (fun a120 hM119 => ?_)
        clear hM117
        refine seg_nil (hK86 _ _ ?_)
        clear hK86 K86 QK86
        have hM121 := hM119.cut1 (t1 := 2) rfl
        clear hM119
        refine wp_ret ?_
        repeat (with_reducible first | refine th_r ?_ | refine inb_r ?_ | refine js_r ?_)
        refine ret_of (t := 2) rfl hM121 rfl ?_
        exact ⟨⟨_, rfl, HRES.out⟩, HB26.out⟩
      case false =>
        have HRES : Hid (q3 = false → LightS s xs) := fun h => by
          have h1 := H1.out; have h2 := H2.out; have h3 := H3.out
          rw [h] at h3
          rw [decide_eq_false_iff_not] at h1 h2 h3
          exact ⟨HLT.out, by omega, by omega, by omega⟩
        refine region_then fun K122 QK122 hK122 => ?_
        refine s_val hM49 (.inl rfl) rfl rfl (ev_fldw (m := 1) rfl rfl (fun w => by simp [go_sem])) (fun a124 hM123 => ?_)
        clear hM49
        refine s_val hM123 (.inl rfl) rfl rfl (ev_load1 (v := .slice (s.li.A) (s.li.n) (s.li.c)) rfl rfl ((KB8.out.on HB27.out).rng.at_ (m := 1) (by rw [HC.out]; rfl)) (isAgg_no Try.underlying22 rfl)) (fun a126 hM125 => ?_)
        clear hM123
        refine s_val hM125 (.inl rfl) rfl rfl (ev_len rfl rfl Try.underlying22) (fun a128 hM127 => ?_)
        clear hM125
        refine s_val hM127 (.inl rfl) rfl rfl (ev_bin rfl rfl rfl g_int (b_gtr (b := false) H1.out)) (fun a130 hM129 => ?_)
        clear hM127
        refine s_val hM129 (.inl rfl) rfl rfl (ev_move (.inl rfl) rfl) (fun a132 hM131 => ?_)
        clear hM129
        refine s_val hM131 (.inr ⟨_, _, _, rfl, rfl, rfl⟩) rfl rfl (ev_fldw (m := 4) rfl rfl (fun w => by simp [go_sem])) (fun a134 hM133 => ?_)
        clear hM131
        refine s_val hM133 (.inr ⟨_, _, _, rfl, rfl, rfl⟩) rfl rfl (ev_load1 (v := .slice (s.wo.A) (s.wo.n) (s.wo.c)) rfl rfl ((KB8.out.on HB27.out).rng.at_ (m := 4) (by rw [HC.out]; rfl)) (isAgg_no Try.underlying22 rfl)) (fun a136 hM135 => ?_)
        clear hM133
        refine s_val hM135 (.inr ⟨_, _, _, rfl, rfl, rfl⟩) rfl rfl (ev_len rfl rfl Try.underlying22) (fun a138 hM137 => ?_)
        clear hM135
        refine s_val hM137 (.inr ⟨_, _, _, rfl, rfl, rfl⟩) rfl rfl (ev_bin rfl rfl rfl g_int (b_gtr (b := false) H2.out)) (fun a140 hM139 => ?_)
        clear hM137
        refine s_val hM139 (.inl rfl) rfl rfl (ev_pick rfl rfl rfl) (fun a142 hM141 => ?_)
        clear hM139
        refine s_val hM141 (.inl rfl) rfl rfl (ev_move (.inl rfl) rfl) (fun a144 hM143 => ?_)
        clear hM141
        refine s_val hM143 (.inr ⟨_, _, _, rfl, rfl, rfl⟩) rfl rfl (ev_fldw (m := 5) rfl rfl (fun w => by simp [go_sem])) (fun a146 hM145 => ?_)
        clear hM143
        refine s_val hM145 (.inr ⟨_, _, _, rfl, rfl, rfl⟩) rfl rfl (ev_load1 (v := .slice (s.wi.A) (s.wi.n) (s.wi.c)) rfl rfl ((KB8.out.on HB27.out).rng.at_ (m := 5) (by rw [HC.out]; rfl)) (isAgg_no Try.underlying22 rfl)) (fun a148 hM147 => ?_)
        clear hM145
        refine s_val hM147 (.inr ⟨_, _, _, rfl, rfl, rfl⟩) rfl rfl (ev_len rfl rfl Try.underlying22) (fun a150 hM149 => ?_)
        clear hM147
        refine s_val hM149 (.inr ⟨_, _, _, rfl, rfl, rfl⟩) rfl rfl (ev_bin rfl rfl rfl g_int (b_gtr (b := q3) H3.out)) (fun a152 hM151 => ?_)
        clear hM149
        refine s_val hM151 (.inl rfl) rfl rfl (ev_pick rfl rfl rfl) (fun a154 hM153 => ?_)
        clear hM151
        refine s_val hM153 (.inl rfl) rfl rfl (ev_move (.inr rfl) rfl) (fun a156 hM155 => ?_)
        clear hM153
        refine seg_nil (hK122 _ _ ?_)
        clear hK122 K122 QK122
        have hM157 := hM155.cut1 (t1 := 2) rfl
        clear hM155
        refine wp_ret ?_
        repeat (with_reducible first | refine th_r ?_ | refine inb_r ?_ | refine js_r ?_)
        refine ret_of (t := 2) rfl hM157 rfl ?_
        exact ⟨⟨_, rfl, HRES.out⟩, HB26.out⟩
  case pos =>
    by_cases hlt2 : j < 12
    case neg =>
      have HLT : Hid (∀ k x v, k < 12 → xs[k]? = some (x, v) → decide (2000 < msW x v) = false) := fun k x v hk hx => HX.out k x v (by have := lt_of_at hx; rw [((HS.out.below HB26.out)).l.1] at this; omega) hx
      refine region_then fun K158 QK158 hK158 => ?_
      refine s_val hM25 (.inl rfl) rfl rfl (ev_move (.inl rfl) rfl) (fun a160 hM159 => ?_)
      clear hM25
      refine s_val hM159 (.inl rfl) rfl rfl (ev_fldw (m := 2) rfl rfl (fun w => by simp [go_sem])) (fun a162 hM161 => ?_)
      clear hM159
      refine s_val hM161 (.inl rfl) rfl rfl (ev_load1 (v := .slice (s.l.A) (s.l.n) (s.l.c)) rfl rfl ((KB8.out.on HB27.out).rng.at_ (m := 2) (by rw [HC.out]; rfl)) (isAgg_no Try.underlying23 rfl)) (fun a164 hM163 => ?_)
      clear hM161
      refine s_val hM163 (.inl rfl) rfl rfl (ev_len rfl rfl Try.underlying23) (fun a166 hM165 => ?_)
      clear hM163
      refine s_val hM165 (.inl rfl) rfl rfl (ev_bin rfl rfl rfl g_int (b_lss (b := true) (by rw [decide_eq_true_eq]; omega))) (fun a168 hM167 => ?_)
      clear hM165
      refine s_val hM167 (.inl rfl) rfl rfl (ev_move (.inl rfl) rfl) (fun a170 hM169 => ?_)
      clear hM167
      refine s_val hM169 (.inr ⟨_, _, _, rfl, rfl, rfl⟩) rfl rfl (ev_move (.inl rfl) rfl) (fun a172 hM171 => ?_)
      clear hM169
      refine s_val hM171 (.inr ⟨_, _, _, rfl, rfl, rfl⟩) rfl rfl (ev_bin rfl rfl rfl g_int (b_lss (b := false) (by rw [decide_eq_false_iff_not]; omega))) (fun a174 hM173 => ?_)
      clear hM171
      refine s_val hM173 (.inl rfl) rfl rfl (ev_pick rfl rfl rfl) (fun a176 hM175 => ?_)
      clear hM173
      refine seg_nil (hK158 _ _ ?_)
      clear hK158 K158 QK158
      have hM177 := hM175.cut3 (t1 := 1) (t2 := 3) (t3 := 12) rfl rfl rfl
      clear hM175
      refine wp_cond_false (hM177.ev (t := 12) rfl) ?_
      refine wp_exit ?_
      repeat (with_reducible refine th_e ?_)
      refine inb_e ?_
      refine hK17 _ _ ?_
      obtain ⟨q1, H1⟩ : ∃ q, Hid (decide (100 < (s.li.n : Int)) = q) := ⟨_, rfl⟩
      obtain ⟨q2, H2⟩ : ∃ q, Hid (decide (200 < (s.wo.n : Int)) = q) := ⟨_, rfl⟩
      obtain ⟨q3, H3⟩ : ∃ q, Hid (decide (200 < (s.wi.n : Int)) = q) := ⟨_, rfl⟩
      cases q1
      case true =>
        have HRES : Hid (true = false → LightS s xs) := fun h => (by cases h)
        refine region_then fun K178 QK178 hK178 => ?_
        refine s_val hM177 (.inl rfl) rfl rfl (ev_fldw (m := 1) rfl rfl (fun w => by simp [go_sem])) (fun a180 hM179 => ?_)
        clear hM177
        refine s_val hM179 (.inl rfl) rfl rfl (ev_load1 (v := .slice (s.li.A) (s.li.n) (s.li.c)) rfl rfl ((KB8.out.on HB27.out).rng.at_ (m := 1) (by rw [HC.out]; rfl)) (isAgg_no Try.underlying22 rfl)) (fun a182 hM181 => ?_)
        clear hM179
        refine s_val hM181 (.inl rfl) rfl rfl (ev_len rfl rfl Try.underlying22) (fun a184 hM183 => ?_)
        clear hM181
        refine s_val hM183 (.inl rfl) rfl rfl (ev_bin rfl rfl rfl g_int (b_gtr (b := true) H1.out)) (fun a186 hM185 => ?_)
        clear hM183
        refine s_val hM185 (.inl rfl) rfl rfl (ev_move (.inl rfl) rfl) (fun a188 hM187 => ?_)
        clear hM185
        refine s_skip hM187 rfl rfl rfl rfl rfl rfl (fun a190 hM189 => ?_)
        clear hM187
        refine s_skip hM189 rfl rfl rfl rfl rfl rfl (fun a192 hM191 => ?_)
        clear hM189
        refine s_skip hM191 rfl rfl rfl rfl rfl rfl (fun a194 hM193 => ?_)
        clear hM191
        refine s_skip hM193 rfl rfl rfl rfl rfl rfl (fun a196 hM195 => ?_)
        clear hM193
        refine s_val hM195 (.inl rfl) rfl rfl (ev_pick rfl rfl rfl) (fun a198 hM197 => ?_)
        clear hM195
        refine s_val hM197 (.inl rfl) rfl rfl (ev_move (.inl rfl) rfl) (fun a200 hM199 => ?_)
        clear hM197
        refine s_skip hM199 rfl rfl rfl rfl rfl rfl (fun a202 hM201 => ?_)
        clear hM199
        refine s_skip hM201 rfl rfl rfl rfl rfl rfl (fun a204 hM203 => ?_)
        clear hM201
        refine s_skip hM203 rfl rfl rfl rfl rfl rfl (fun a206 hM205 => ?_)
        clear hM203
        refine s_skip hM205 rfl rfl rfl rfl rfl rfl (fun a208 hM207 => ?_)
        clear hM205
        refine s_val hM207 (.inl rfl) rfl rfl (ev_pick rfl rfl rfl) (fun a210 hM209 => ?_)
        clear hM207
        refine s_val hM209 (.inl rfl) rfl rfl (ev_move (.inr rfl) rfl) (fun a212 hM211 => ?_)
        clear hM209
        refine seg_nil (hK178 _ _ ?_)
        clear hK178 K178 QK178
        have hM213 := hM211.cut1 (t1 := 2) rfl
        clear hM211
        refine wp_ret ?_
        repeat (with_reducible first | refine th_r ?_ | refine inb_r ?_ | refine js_r ?_)
        refine ret_of (t := 2) rfl hM213 rfl ?_
        exact ⟨⟨_, rfl, HRES.out⟩, HB26.out⟩
      case false =>
        cases q2
        case true =>
          have HRES : Hid (true = false → LightS s xs) := fun h => (by cases h)
          refine region_then fun K214 QK214 hK214 => ?_
          refine s_val hM177 (.inl rfl) rfl rfl (ev_fldw (m := 1) rfl rfl (fun w => by simp [go_sem])) (fun a216 hM215 => ?_)
          clear hM177
          refine s_val hM215 (.inl rfl) rfl rfl (ev_load1 (v := .slice (s.li.A) (s.li.n) (s.li.c)) rfl rfl ((KB8.out.on HB27.out).rng.at_ (m := 1) (by rw [HC.out]; rfl)) (isAgg_no Try.underlying22 rfl)) (fun a218 hM217 => ?_)
          clear hM215
          refine s_val hM217 (.inl rfl) rfl rfl (ev_len rfl rfl Try.underlying22) (fun a220 hM219 => ?_)
          clear hM217
          refine s_val hM219 (.inl rfl) rfl rfl (ev_bin rfl rfl rfl g_int (b_gtr (b := false) H1.out)) (fun a222 hM221 => ?_)
          clear hM219
          refine s_val hM221 (.inl rfl) rfl rfl (ev_move (.inl rfl) rfl) (fun a224 hM223 => ?_)
          clear hM221
          refine s_val hM223 (.inr ⟨_, _, _, rfl, rfl, rfl⟩) rfl rfl (ev_fldw (m := 4) rfl rfl (fun w => by simp [go_sem])) (fun a226 hM225 => ?_)
          clear hM223
          refine s_val hM225 (.inr ⟨_, _, _, rfl, rfl, rfl⟩) rfl rfl (ev_load1 (v := .slice (s.wo.A) (s.wo.n) (s.wo.c)) rfl rfl ((KB8.out.on HB27.out).rng.at_ (m := 4) (by rw [HC.out]; rfl)) (isAgg_no Try.underlying22 rfl)) (fun a228 hM227 => ?_)
          clear hM225
          refine s_val hM227 (.inr ⟨_, _, _, rfl, rfl, rfl⟩) rfl rfl (ev_len rfl rfl Try.underlying22) (fun a230 hM229 => ?_)
          clear hM227
          refine s_val hM229 (.inr ⟨_, _, _, rfl, rfl, rfl⟩) rfl rfl (ev_bin rfl rfl rfl g_int (b_gtr (b := true) H2.out)) (fun a232 hM231 => ?_)
          clear hM229
          refine s_val hM231 (.inl rfl) rfl rfl (ev_pick rfl rfl rfl) (fun a234 hM233 => ?_)
          clear hM231
          refine s_val hM233 (.inl rfl) rfl rfl (ev_move (.inl rfl) rfl) (fun a236 hM235 => ?_)
          clear hM233
          refine s_skip hM235 rfl rfl rfl rfl rfl rfl (fun a238 hM237 => ?_)
          clear hM235
          refine s_skip hM237 rfl rfl rfl rfl rfl rfl (fun a240 hM239 => ?_)
          clear hM237
          refine s_skip hM239 rfl rfl rfl rfl rfl rfl (fun a242 hM241 => ?_)
          clear hM239
          refine s_skip hM241 rfl rfl rfl rfl rfl rfl (fun a244 hM243 => ?_)
          clear hM241
          refine s_val hM243 (.inl rfl) rfl rfl (ev_pick rfl rfl rfl) (fun a246 hM245 => ?_)
          clear hM243
          refine s_val hM245 (.inl rfl) rfl rfl (ev_move (.inr rfl) rfl) (fun a248 hM247 => ?_)
          clear hM245
          refine seg_nil (hK214 _ _ ?_)
          clear hK214 K214 QK214
          have hM249 := hM247.cut1 (t1 := 2) rfl
          clear hM247
          refine wp_ret ?_
          repeat (with_reducible first | refine th_r ?_ | refine inb_r ?_ | refine js_r ?_)
          refine ret_of (t := 2) rfl hM249 rfl ?_
          exact ⟨⟨_, rfl, HRES.out⟩, HB26.out⟩
        case false =>
          have HRES : Hid (q3 = false → LightS s xs) := fun h => by
            have h1 := H1.out; have h2 := H2.out; have h3 := H3.out
            rw [h] at h3
            rw [decide_eq_false_iff_not] at h1 h2 h3
            exact ⟨HLT.out, by omega, by omega, by omega⟩
          refine region_then fun K250 QK250 hK250 => ?_
          refine s_val hM177 (.inl rfl) rfl rfl (ev_fldw (m := 1) rfl rfl (fun w => by simp [go_sem])) (fun a252 hM251 => ?_)
          clear hM177
          refine s_val hM251 (.inl rfl) rfl rfl (ev_load1 (v := .slice (s.li.A) (s.li.n) (s.li.c)) rfl rfl ((KB8.out.on HB27.out).rng.at_ (m := 1) (by rw [HC.out]; rfl)) (isAgg_no Try.underlying22 rfl)) (fun a254 hM253 => ?_)
          clear hM251
          refine s_val hM253 (.inl rfl) rfl rfl (ev_len rfl rfl Try.underlying22) (fun a256 hM255 => ?_)
          clear hM253
          refine s_val hM255 (.inl rfl) rfl rfl (ev_bin rfl rfl rfl g_int (b_gtr (b := false) H1.out)) (fun a258 hM257 => ?_)
          clear hM255
          refine s_val hM257 (.inl rfl) rfl rfl (ev_move (.inl rfl) rfl) (fun a260 hM259 => ?_)
          clear hM257
          refine s_val hM259 (.inr ⟨_, _, _, rfl, rfl, rfl⟩) rfl rfl (ev_fldw (m := 4) rfl rfl (fun w => by simp [go_sem])) (fun a262 hM261 => ?_)
          clear hM259
          refine s_val hM261 (.inr ⟨_, _, _, rfl, rfl, rfl⟩) rfl rfl (ev_load1 (v := .slice (s.wo.A) (s.wo.n) (s.wo.c)) rfl rfl ((KB8.out.on HB27.out).rng.at_ (m := 4) (by rw [HC.out]; rfl)) (isAgg_no Try.underlying22 rfl)) (fun a264 hM263 => ?_)
          clear hM261
          refine s_val hM263 (.inr ⟨_, _, _, rfl, rfl, rfl⟩) rfl rfl (ev_len rfl rfl Try.underlying22) (fun a266 hM265 => ?_)
          clear hM263
          refine s_val hM265 (.inr ⟨_, _, _, rfl, rfl, rfl⟩) rfl rfl (ev_bin rfl rfl rfl g_int (b_gtr (b := false) H2.out)) (fun a268 hM267 => ?_)
          clear hM265
          refine s_val hM267 (.inl rfl) rfl rfl (ev_pick rfl rfl rfl) (fun a270 hM269 => ?_)
          clear hM267
          refine s_val hM269 (.inl rfl) rfl rfl (ev_move (.inl rfl) rfl) (fun a272 hM271 => ?_)
          clear hM269
          refine s_val hM271 (.inr ⟨_, _, _, rfl, rfl, rfl⟩) rfl rfl (ev_fldw (m := 5) rfl rfl (fun w => by simp [go_sem])) (fun a274 hM273 => ?_)
          clear hM271
          refine s_val hM273 (.inr ⟨_, _, _, rfl, rfl, rfl⟩) rfl rfl (ev_load1 (v := .slice (s.wi.A) (s.wi.n) (s.wi.c)) rfl rfl ((KB8.out.on HB27.out).rng.at_ (m := 5) (by rw [HC.out]; rfl)) (isAgg_no Try.underlying22 rfl)) (fun a276 hM275 => ?_)
          clear hM273
          refine s_val hM275 (.inr ⟨_, _, _, rfl, rfl, rfl⟩) rfl rfl (ev_len rfl rfl Try.underlying22) (fun a278 hM277 => ?_)
          clear hM275
          refine s_val hM277 (.inr ⟨_, _, _, rfl, rfl, rfl⟩) rfl rfl (ev_bin rfl rfl rfl g_int (b_gtr (b := q3) H3.out)) (fun a280 hM279 => ?_)
          clear hM277
          refine s_val hM279 (.inl rfl) rfl rfl (ev_pick rfl rfl rfl) (fun a282 hM281 => ?_)
          clear hM279
          refine s_val hM281 (.inl rfl) rfl rfl (ev_move (.inr rfl) rfl) (fun a284 hM283 => ?_)
          clear hM281
          refine seg_nil (hK250 _ _ ?_)
          clear hK250 K250 QK250
          have hM285 := hM283.cut1 (t1 := 2) rfl
          clear hM283
          refine wp_ret ?_
          repeat (with_reducible first | refine th_r ?_ | refine inb_r ?_ | refine js_r ?_)
          refine ret_of (t := 2) rfl hM285 rfl ?_
          exact ⟨⟨_, rfl, HRES.out⟩, HB26.out⟩
    case pos =>
      refine region_then fun K286 QK286 hK286 => ?_
      refine s_val hM25 (.inl rfl) rfl rfl (ev_move (.inl rfl) rfl) (fun a288 hM287 => ?_)
      clear hM25
      refine s_val hM287 (.inl rfl) rfl rfl (ev_fldw (m := 2) rfl rfl (fun w => by simp [go_sem])) (fun a290 hM289 => ?_)
      clear hM287
      refine s_val hM289 (.inl rfl) rfl rfl (ev_load1 (v := .slice (s.l.A) (s.l.n) (s.l.c)) rfl rfl ((KB8.out.on HB27.out).rng.at_ (m := 2) (by rw [HC.out]; rfl)) (isAgg_no Try.underlying23 rfl)) (fun a292 hM291 => ?_)
      clear hM289
      refine s_val hM291 (.inl rfl) rfl rfl (ev_len rfl rfl Try.underlying23) (fun a294 hM293 => ?_)
      clear hM291
      refine s_val hM293 (.inl rfl) rfl rfl (ev_bin rfl rfl rfl g_int (b_lss (b := true) (by rw [decide_eq_true_eq]; omega))) (fun a296 hM295 => ?_)
      clear hM293
      refine s_val hM295 (.inl rfl) rfl rfl (ev_move (.inl rfl) rfl) (fun a298 hM297 => ?_)
      clear hM295
      refine s_val hM297 (.inr ⟨_, _, _, rfl, rfl, rfl⟩) rfl rfl (ev_move (.inl rfl) rfl) (fun a300 hM299 => ?_)
      clear hM297
      refine s_val hM299 (.inr ⟨_, _, _, rfl, rfl, rfl⟩) rfl rfl (ev_bin rfl rfl rfl g_int (b_lss (b := true) (by rw [decide_eq_true_eq]; omega))) (fun a302 hM301 => ?_)
      clear hM299
      refine s_val hM301 (.inl rfl) rfl rfl (ev_pick rfl rfl rfl) (fun a304 hM303 => ?_)
      clear hM301
      refine seg_nil (hK286 _ _ ?_)
      clear hK286 K286 QK286
      have hM305 := hM303.cut3 (t1 := 1) (t2 := 3) (t3 := 12) rfl rfl rfl
      clear hM303
      refine wp_cond_true (hM305.ev (t := 12) rfl) ?_
      refine wp_skip ?_
      refine hK29 _ _ ?_
      refine wp_seq_k fun K306 hK306 => ?_
      refine wp_block ?_
      obtain ⟨x, v, hxv_⟩ : ∃ x v, xs[j]? = some (x, v) := ⟨_, _, List.getElem?_eq_getElem (by rw [((HS.out.below HB26.out)).l.1]; omega)⟩
      have hxv := hide hxv_
      clear hxv_
      have HMA := hide (((HS.out.below HB26.out)).l.2 j (x, v) hxv.out)
      obtain ⟨bb, off, hA, hbl, hc⟩ := HMA.out.at_
      obtain ⟨MC, HMC⟩ : ∃ C : Array Value, Hid (C = msC x v) := ⟨_, rfl⟩
      have HRMC : Hid (Rng w23 bb (off + j * 18) MC) := ⟨hbl, by rw [HMC.out]; exact hc⟩
      have HMS := hide HMA.out.s
      have HML := hide HMA.out.l
      have HMD := hide HMA.out.d
      clear hc hbl HMA
      have HB308 : Hid (Below w23.heap.size w23 w23) := Below.refl _ _
      obtain ⟨q, HQ⟩ : ∃ q, Hid (decide (2000 < msW x v) = q) := ⟨_, rfl⟩
      cases q
      case true =>
        have HRES : Hid (true = false → LightS s xs) := fun h => (by cases h)
        refine region_then fun K309 QK309 hK309 => ?_
        refine s_val hM305 (.inl rfl) rfl rfl (ev_fldw (m := 2) rfl rfl (fun w => by simp [go_sem])) (fun a311 hM310 => ?_)
        clear hM305
        refine s_val hM310 (.inl rfl) rfl rfl (ev_load1 (v := .slice (s.l.A) (s.l.n) (s.l.c)) rfl rfl ((KB8.out.on HB27.out).rng.at_ (m := 2) (by rw [HC.out]; rfl)) (isAgg_no Try.underlying23 rfl)) (fun a313 hM312 => ?_)
        clear hM310
        refine s_val hM312 (.inl rfl) rfl rfl (ev_move (.inl rfl) rfl) (fun a315 hM314 => ?_)
        clear hM312
        refine s_val hM314 (.inl rfl) rfl rfl (ev_idx (b := bb) (k := j) (sz := 18) (p := off + j * 18) rfl (by rw [← hA]; rfl) rfl Try.underlying23 (by kernel_rfl) hlt (by omega)) (fun a317 hM316 => ?_)
        clear hM314
        refine s_val hM316 (.inl rfl) rfl rfl (ev_loadm rfl rfl (HRMC.out.below HB308.out) Try.underlying42 rfl (by rw [HMC.out]; exact Try.infoMsg)) (fun a319 hM318 => ?_)
        clear hM316
        refine s_call hM318 (.inl rfl) rfl rfl (f := 34) (args := #[.agg MC]) (ev_call hM318 rfl rfl rfl (fun w => by simp [go_sem]) _) (law7_Heavy x v _ (hide (HMS.out.below HB308.out)) HML HMC HQ) (fun e w320 hp => ?_)
        obtain ⟨rfl, hb321⟩ := hp
        refine ⟨_, rfl, fun a323 hM322 => ?_⟩
        clear hM318
        have HB324 := hide (below_then HB26.out hb321)
        have HB325 := hide (below_then HB27.out hb321)
        have HB326 := hide (below_then HB308.out hb321)
        clear hb321 HB26 HB27 HB308
        refine seg_nil (hK309 _ _ ?_)
        clear hK309 K309 QK309
        have hM327 := hM322.cut3 (t1 := 1) (t2 := 3) (t3 := 20) rfl rfl rfl
        clear hM322
        refine wp_cond_true (hM327.ev (t := 20) rfl) ?_
        refine region_then fun K328 QK328 hK328 => ?_
        refine s_val hM327 (.inl rfl) rfl rfl (ev_move (.inr rfl) rfl) (fun a330 hM329 => ?_)
        clear hM327
        refine seg_nil (hK328 _ _ ?_)
        clear hK328 K328 QK328
        have hM331 := hM329.cut1 (t1 := 2) rfl
        clear hM329
        refine wp_ret ?_
        repeat (with_reducible first | refine th_r ?_ | refine inb_r ?_ | refine js_r ?_)
        refine ret_of (t := 2) rfl hM331 rfl ?_
        exact ⟨⟨_, rfl, HRES.out⟩, HB324.out⟩
      case false =>
        have HX2 : Hid (∀ k x v, k < j + 1 → xs[k]? = some (x, v) → decide (2000 < msW x v) = false) := fun k y u hk hx => by
          rcases Nat.lt_or_ge k j with h | h
          · exact HX.out k y u h hx
          · obtain rfl : k = j := by omega
            have e := hxv.out.symm.trans hx
            injection e with e
            injection e with e1 e2
            subst e1; subst e2; exact HQ.out
        refine region_then fun K332 QK332 hK332 => ?_
        refine s_val hM305 (.inl rfl) rfl rfl (ev_fldw (m := 2) rfl rfl (fun w => by simp [go_sem])) (fun a334 hM333 => ?_)
        clear hM305
        refine s_val hM333 (.inl rfl) rfl rfl (ev_load1 (v := .slice (s.l.A) (s.l.n) (s.l.c)) rfl rfl ((KB8.out.on HB27.out).rng.at_ (m := 2) (by rw [HC.out]; rfl)) (isAgg_no Try.underlying23 rfl)) (fun a336 hM335 => ?_)
        clear hM333
        refine s_val hM335 (.inl rfl) rfl rfl (ev_move (.inl rfl) rfl) (fun a338 hM337 => ?_)
        clear hM335
        refine s_val hM337 (.inl rfl) rfl rfl (ev_idx (b := bb) (k := j) (sz := 18) (p := off + j * 18) rfl (by rw [← hA]; rfl) rfl Try.underlying23 (by kernel_rfl) hlt (by omega)) (fun a340 hM339 => ?_)
        clear hM337
        refine s_val hM339 (.inl rfl) rfl rfl (ev_loadm rfl rfl (HRMC.out.below HB308.out) Try.underlying42 rfl (by rw [HMC.out]; exact Try.infoMsg)) (fun a342 hM341 => ?_)
        clear hM339
        refine s_call hM341 (.inl rfl) rfl rfl (f := 34) (args := #[.agg MC]) (ev_call hM341 rfl rfl rfl (fun w => by simp [go_sem]) _) (law7_Heavy x v _ (hide (HMS.out.below HB308.out)) HML HMC HQ) (fun e w343 hp => ?_)
        obtain ⟨rfl, hb344⟩ := hp
        refine ⟨_, rfl, fun a346 hM345 => ?_⟩
        clear hM341
        have HB347 := hide (below_then HB26.out hb344)
        have HB348 := hide (below_then HB27.out hb344)
        have HB349 := hide (below_then HB308.out hb344)
        clear hb344 HB26 HB27 HB308
        refine seg_nil (hK332 _ _ ?_)
        clear hK332 K332 QK332
        have hM350 := hM345.cut3 (t1 := 1) (t2 := 3) (t3 := 20) rfl rfl rfl
        clear hM345
        refine wp_cond_false (hM350.ev (t := 20) rfl) ?_
        refine wp_skip ?_
        refine inb_n ?_
        refine hK306 _ _ ?_
        refine region_last fun K351 QK351 hK351 => ?_
        refine s_val hM350 (.inl rfl) rfl rfl (ev_move (.inl rfl) rfl) (fun a353 hM352 => ?_)
        clear hM350
        refine s_val hM352 (.inl rfl) rfl rfl (ev_bin rfl rfl rfl g_int (b_add (r := ((j + 1 : Nat) : Int)) (by omega) (by omega))) (fun a355 hM354 => ?_)
        clear hM352
        refine s_val hM354 (.inl rfl) rfl rfl (ev_move (.inr rfl) rfl) (fun a357 hM356 => ?_)
        clear hM354
        refine seg_nil (hK351 _ _ ?_)
        clear hK351 K351 QK351
        have hM358 := hM356.cut2 (t1 := 1) (t2 := 3) rfl rfl
        clear hM356
        have hM359 := hM358.cut2 (t1 := 3) (t2 := 1) rfl rfl
        clear hM358
        exact ⟨s.l.n - (j + 1), by omega, j + 1, rfl, hM359, HB347, HB348, HX2⟩
end Go.Proofs.Ytebaojcfmkobjaa
