/-
  The walk of NetExact: whatever the acts, the call answers true and changes nothing that was there.
-/
import Derived.Test.YtflamhndmggiaaaGr20
set_option linter.unusedVariables false
set_option linter.unusedSimpArgs false
namespace Go.Proofs.Ytflamhndmggiaaa
open Go.RowKit

set_option maxRecDepth 100000 in
set_option maxHeartbeats 4000000 in
theorem walk_NetExact {v : Value} {w : World} (ho : ∃ A n c, v = .slice A n c ∧ Acts12 w A n) :
    Calls Try.prog 10 #[v] w fun r w' => r = .returned (.bool true) ∧ Below w.heap.size w w' := by
  obtain ⟨A, n, c, rfl, ha⟩ := ho
  obtain ⟨d, hf⟩ := acts_fun ha
  have hn := ha.1
  obtain ⟨ba, oa, hAe_⟩ : ∃ ba oa, 0 < n → A = some ⟨ba, oa, none⟩ := by
    by_cases h0 : 0 < n
    · obtain ⟨b, off, e, _⟩ := (hf.all 0 h0).at_
      exact ⟨b, off, fun _ => e⟩
    · exact ⟨0, 0, fun h => absurd h h0⟩
  have HAE := hide hAe_
  have HF := hide hf
  clear hf ha hAe_
  go_enter Try.func10, Try.ntmps10
  refine act_off 183 [(0, .slice A n c)] (Frm.start rfl (by intro p hp; simp only [List.mem_cons, List.not_mem_nil, or_false] at hp; subst hp; rfl)) (fun a0 hM => ?_)
  have HB2 : Hid (Below w.heap.size w w) := Below.refl _ _
  refine region_then fun K3 QK3 hK3 => ?_
  refine s_val hM (.inl rfl) rfl rfl (ev_move (.inr rfl) rfl) (fun a5 hM4 => ?_)
  clear hM
  refine seg_nil (hK3 _ _ ?_)
  clear hK3 K3 QK3
  have hM6 := hM4.cut2 (t1 := 0) (t2 := 2) rfl rfl
  clear hM4
  refine wp_seq_k fun K7 hK7 => ?_
  refine region_then fun K8 QK8 hK8 => ?_
  refine s_val hM6 (.inl rfl) rfl rfl (ev_move (.inl rfl) rfl) (fun a10 hM9 => ?_)
  clear hM6
  refine s_call hM9 (.inl rfl) rfl rfl (f := 40) (args := #[.slice A n c]) (ev_call hM9 rfl rfl rfl (fun w => by simp [go_sem]) _) (law12_heavy _ (HF.out.below HB2.out)) (fun e w11 hp => ?_)
  obtain ⟨⟨rv, rfl, hR⟩, rfl⟩ := hp
  refine ⟨_, rfl, fun a14 hM13 => ?_⟩
  clear hM9
  refine seg_nil (hK8 _ _ ?_)
  clear hK8 K8 QK8
  have hM15 := hM13.cut3 (t1 := 0) (t2 := 2) (t3 := 17) rfl rfl rfl
  clear hM13
  cases rv
  case true =>
    refine wp_cond_true (hM15.ev (t := 17) rfl) ?_
    refine region_then fun K16 QK16 hK16 => ?_
    refine s_val hM15 (.inl rfl) rfl rfl (ev_move (.inr rfl) rfl) (fun a18 hM17 => ?_)
    clear hM15
    refine seg_nil (hK16 _ _ ?_)
    clear hK16 K16 QK16
    have hM19 := hM17.cut1 (t1 := 2) rfl
    clear hM17
    refine wp_ret ?_
    repeat (with_reducible first | refine th_r ?_ | refine inb_r ?_ | refine js_r ?_)
    refine ret_of (t := 2) rfl hM19 rfl ?_
    exact ⟨rfl, HB2.out⟩
  case false =>
    have HL := hide (hR rfl)
    clear hR
    refine wp_cond_false (hM15.ev (t := 17) rfl) ?_
    refine wp_skip ?_
    refine hK7 _ _ ?_
    refine region_then fun K20 QK20 hK20 => ?_
    refine s_call hM15 (.inl rfl) rfl rfl (f := 41) (args := #[]) (ev_call hM15 rfl rfl rfl (fun w => by simp [go_sem]) _) (net_New _) (fun e w21 hp => ?_)
    obtain ⟨g, m, rfl, hJ0⟩ := hp
    obtain ⟨hJ1, hb1, hg1, hm1⟩ := hJ0
    have HB25 := hide (below_then HB2.out hb1)
    have HJ := hide hJ1
    have HG : Hid (w.heap.size ≤ g ∧ w.heap.size ≤ m) := ⟨Nat.le_trans HB2.out.size hg1, Nat.le_trans HB2.out.size hm1⟩
    clear hJ1 hb1 hg1 hm1 HB2
    have HB27 : Hid (Below w21.heap.size w21 w21) := Below.refl _ _
    refine ⟨_, rfl, fun a24 hM23 => ?_⟩
    clear hM15
    refine s_val hM23 (.inl rfl) rfl rfl (ev_move (.inr rfl) rfl) (fun a29 hM28 => ?_)
    clear hM23
    refine seg_nil (hK20 _ _ ?_)
    clear hK20 K20 QK20
    have hM30 := hM28.cut2 (t1 := 0) (t2 := 3) rfl rfl
    clear hM28
    refine wp_seq_k fun K31 hK31 => ?_
    refine region_then fun K32 QK32 hK32 => ?_
    refine s_val hM30 (.inl rfl) rfl rfl (ev_move (.inl rfl) rfl) (fun a34 hM33 => ?_)
    clear hM30
    refine s_val hM33 (.inl rfl) rfl rfl (ev_ptrnil rfl rfl (u_ptr (by kernel_rfl)) g_ptr) (fun a36 hM35 => ?_)
    clear hM33
    refine seg_nil (hK32 _ _ ?_)
    clear hK32 K32 QK32
    have hM37 := hM35.cut3 (t1 := 0) (t2 := 3) (t3 := 20) rfl rfl rfl
    clear hM35
    refine wp_cond_false (hM37.ev (t := 20) rfl) ?_
    refine wp_skip ?_
    refine hK31 _ _ ?_
    refine region_then fun K38 QK38 hK38 => ?_
    refine s_val hM37 (.inl rfl) rfl rfl (ev_build0 (v := .agg #[.slice none 0 0]) rfl (fun w => by kernel_rfl)) (fun a40 hM39 => ?_)
    clear hM37
    have HBW := HB25
    refine s_alloc (e := 78) hM39 (.inl rfl) rfl rfl (V := fun g => .pointer (some ⟨g, 0, none⟩)) (ev_box hM39 rfl rfl) (fun g41 a47 w42 hM46 KB45_ hb43 hg44 => ?_)
    have KB45 := hide KB45_
    clear hM39 KB45_
    have lo48 := hide (Nat.le_trans HB25.out.size hg44)
    have lo49 := hide (Nat.le_trans HB27.out.size hg44)
    clear hg44
    have HB50 := hide (below_then HB25.out hb43)
    have HB51 := hide (below_then HB27.out hb43)
    clear hb43 HB25 HB27
    have HB53 : Hid (Below w42.heap.size w42 w42) := Below.refl _ _
    have HX : Hid (NX w w42 g g41 (fun _ => []) (fun _ => []) (fun _ => False) 0) := nx_init HJ.out HBW.out HG.out.1 HG.out.2 HB51.out (KB45.out.on HB53.out) lo49.out
    obtain ⟨r, hr_⟩ : ∃ q, q = g41 := ⟨_, rfl⟩
    rw [← hr_] at HX
    rw [← hr_] at hM46
    clear HJ HG KB45
    have HB55 : Hid (Below w42.heap.size w42 w42) := Below.refl _ _
    refine s_val hM46 (.inl rfl) rfl rfl (ev_move (.inr rfl) rfl) (fun a57 hM56 => ?_)
    clear hM46
    refine seg_nil (hK38 _ _ ?_)
    clear hK38 K38 QK38
    have hM58 := hM56.cut3 (t1 := 0) (t2 := 3) (t3 := 4) rfl rfl rfl
    clear hM56
    refine wp_seq_k fun K59 hK59 => ?_
    refine region_then fun K60 QK60 hK60 => ?_
    refine s_val hM58 (.inl rfl) rfl rfl (ev_move (.inr rfl) rfl) (fun a62 hM61 => ?_)
    clear hM58
    refine seg_nil (hK60 _ _ ?_)
    clear hK60 K60 QK60
    have hM63 := hM61.cut4 (t1 := 0) (t2 := 3) (t3 := 4) (t4 := 5) rfl rfl rfl rfl
    clear hM61
    have hM64 := hM63.cut4 (t1 := 5) (t2 := 0) (t3 := 3) (t4 := 4) rfl rfl rfl rfl
    clear hM63
    refine wp_block ?_
    refine wp_loop_ghost (fun m a w' => ∃ (j : Nat) (S : Int × Int → List (List UInt8)), m = n - j ∧ Frm a 183 [(5, .int .i64 (j : Int)), (0, .slice A n c), (3, .pointer (some ⟨g, 0, none⟩)), (4, .pointer (some ⟨r, 0, none⟩))] ∧ Hid (Below w.heap.size w w') ∧ Hid (NX w w' g r S S (fun _ => False) j) ∧ j ≤ n ∧ j ≤ 60) n ⟨0, (fun _ => []),  by omega, hM64, HB50, (hide (HX.out.below HB55.out)), Nat.zero_le _, by omega⟩ ?_
    clear HB50 HB51 HB53 HB55 hM64 HX
    rintro m69 a66 w65 ⟨j, S, rfl, hM67, HB68, HX, hjn, hj60⟩
    have HB71 : Hid (Below w65.heap.size w65 w65) := Below.refl _ _
    refine wp_seq_k fun K72 hK72 => ?_
    by_cases hlt : j < n
    case pos =>
      by_cases h60 : j < 60
      case pos =>
        have hdj := HL.out j (by omega) (by omega)
        have HRj := hide (((HF.out.below HB68.out)).row (HAE.out (by omega)) hlt)
        refine region_then fun K73 QK73 hK73 => ?_
        refine s_val hM67 (.inl rfl) rfl rfl (ev_move (.inl rfl) rfl) (fun a75 hM74 => ?_)
        clear hM67
        refine s_val hM74 (.inl rfl) rfl rfl (ev_move (.inl rfl) rfl) (fun a77 hM76 => ?_)
        clear hM74
        refine s_val hM76 (.inl rfl) rfl rfl (ev_len rfl rfl Try.underlying62) (fun a79 hM78 => ?_)
        clear hM76
        refine s_val hM78 (.inl rfl) rfl rfl (ev_bin rfl rfl rfl g_int (b_lss (b := true) (by rw [decide_eq_true_eq]; omega))) (fun a81 hM80 => ?_)
        clear hM78
        refine s_val hM80 (.inl rfl) rfl rfl (ev_move (.inl rfl) rfl) (fun a83 hM82 => ?_)
        clear hM80
        refine s_val hM82 (.inr ⟨_, _, _, rfl, rfl, rfl⟩) rfl rfl (ev_move (.inl rfl) rfl) (fun a85 hM84 => ?_)
        clear hM82
        refine s_val hM84 (.inr ⟨_, _, _, rfl, rfl, rfl⟩) rfl rfl (ev_bin rfl rfl rfl g_int (b_lss (b := true) (by rw [decide_eq_true_eq]; omega))) (fun a87 hM86 => ?_)
        clear hM84
        refine s_val hM86 (.inl rfl) rfl rfl (ev_pick rfl rfl rfl) (fun a89 hM88 => ?_)
        clear hM86
        refine seg_nil (hK73 _ _ ?_)
        clear hK73 K73 QK73
        have hM90 := hM88.cut5 (t1 := 0) (t2 := 3) (t3 := 4) (t4 := 5) (t5 := 30) rfl rfl rfl rfl rfl
        clear hM88
        refine wp_cond_true (hM90.ev (t := 30) rfl) ?_
        refine wp_skip ?_
        refine hK72 _ _ ?_
        refine wp_seq_k fun K91 hK91 => ?_
        refine wp_block ?_
        refine region_then fun K92 QK92 hK92 => ?_
        refine s_val hM90 (.inl rfl) rfl rfl (ev_move (.inl rfl) rfl) (fun a94 hM93 => ?_)
        clear hM90
        refine s_val hM93 (.inl rfl) rfl rfl (ev_move (.inl rfl) rfl) (fun a96 hM95 => ?_)
        clear hM93
        refine s_val hM95 (.inl rfl) rfl rfl (ev_idx (b := ba) (off := oa) (k := j) (sz := 5) (p := oa + j * 5) rfl (by rw [← HAE.out (by omega)]; rfl) rfl Try.underlying62 (by kernel_rfl) (by omega) rfl) (fun a98 hM97 => ?_)
        clear hM95
        refine s_val hM97 (.inl rfl) rfl rfl (ev_loadm rfl rfl (HRj.out.below HB71.out) Try.underlying68 rfl (by kernel_rfl)) (fun a100 hM99 => ?_)
        clear hM97
        refine s_new hM99 rfl rfl rfl rfl alloc_act rfl rfl rfl rfl info_act rfl one_act (fun g101 a107 w102 hM106 KB105_ hb103 hg104 => ?_)
        have KB105 := hide KB105_
        clear hM99 KB105_
        have lo108 := hide (Nat.le_trans HB68.out.size hg104)
        have lo109 := hide (Nat.le_trans HB71.out.size hg104)
        clear hg104
        have HB110 := hide (below_then HB68.out hb103)
        have HB111 := hide (below_then HB71.out hb103)
        clear hb103 HB68 HB71
        have HB113 : Hid (Below w102.heap.size w102 w102) := Below.refl _ _
        obtain ⟨tb, htb_⟩ : ∃ q, q = g101 := ⟨_, rfl⟩
        rw [← htb_] at hM106
        rw [← htb_] at KB105
        have HX_ : Hid (NX w w102 g r S S (fun q => q = tb) j) := hide (HX.out.add HB111.out (fun b hb => .inr ⟨by rw [hb, htb_]; exact lo109.out, by rw [hb]; exact KB105.out.lt⟩))
        clear HX HRj
        have HX := HX_
        clear HX_ htb_
        refine seg_nil (hK92 _ _ ?_)
        clear hK92 K92 QK92
        have hM114 := hM106.cut5 (t1 := 0) (t2 := 3) (t3 := 4) (t4 := 5) (t5 := 6) rfl rfl rfl rfl rfl
        clear hM106
        refine wp_seq_k fun K115 hK115 => ?_
        refine region_then fun K116 QK116 hK116 => ?_
        refine s_val hM114 (.inl rfl) rfl rfl (ev_fldw (m := 0) rfl rfl (fun w => by simp [go_sem])) (fun a118 hM117 => ?_)
        clear hM114
        refine s_val hM117 (.inl rfl) rfl rfl (ev_load1 (v := .int .i64 ((d j).z0)) rfl rfl ((KB105.out.on HB113.out).rng.at_ (m := 0) rfl) (isAgg_no Try.underlying3 rfl)) (fun a120 hM119 => ?_)
        clear hM117
        refine s_call hM119 (.inl rfl) rfl rfl (f := 18) (args := #[.int .i64 ((d j).z0), .int .i64 10]) (ev_call hM119 rfl rfl rfl (fun w => by simp [go_sem]) _) (law0_WithinF (d j).z0 10 _ (by decide) (by decide)) (fun e w121 hp => ?_)
        obtain ⟨rfl, rfl⟩ := hp
        refine ⟨_, rfl, fun a124 hM123 => ?_⟩
        clear hM119
        refine seg_nil (hK116 _ _ ?_)
        clear hK116 K116 QK116
        have hM125 := hM123.cut6 (t1 := 0) (t2 := 3) (t3 := 4) (t4 := 5) (t5 := 6) (t6 := 39) rfl rfl rfl rfl rfl rfl
        clear hM123
        refine wp_join (fun a w' => ∃ (S2 : Int × Int → List (List UInt8)), Frm a 183 [(0, .slice A n c), (3, .pointer (some ⟨g, 0, none⟩)), (4, .pointer (some ⟨r, 0, none⟩)), (5, .int .i64 ((j : Int))), (6, .pointer (some ⟨tb, 0, none⟩))] ∧ Hid (NX w w' g r S2 S2 (fun q => q = tb) (j + 1)) ∧ Hid (Blk w' tb 68 (actC (d j)))) ?_ ?_
        ·
          refine wp_block ?_
          refine wp_seq_k fun K126 hK126 => ?_
          by_cases h5 : wiF (d j).z0 10 = 5
          case pos =>
            refine region_then fun K127 QK127 hK127 => ?_
            refine s_val hM125 (.inl rfl) rfl rfl (ev_bin rfl rfl rfl g_int (b_eql (b := true) (by rw [decide_eq_true_eq]; omega))) (fun a129 hM128 => ?_)
            clear hM125
            refine s_val hM128 (.inl rfl) rfl rfl (ev_move (.inr rfl) rfl) (fun a131 hM130 => ?_)
            clear hM128
            refine seg_nil (hK127 _ _ ?_)
            clear hK127 K127 QK127
            have hM132 := hM130.cut7 (t1 := 0) (t2 := 3) (t3 := 4) (t4 := 5) (t5 := 6) (t6 := 39) (t7 := 63) rfl rfl rfl rfl rfl rfl rfl
            clear hM130
            refine wp_cond_true (hM132.ev (t := 63) rfl) ?_
            refine wp_skip ?_
            refine hK126 _ _ ?_
            refine wp_cond_true (hM132.ev (t := 63) rfl) ?_
            refine region_then fun K133 QK133 hK133 => ?_
            refine s_val hM132 (.inl rfl) rfl rfl (ev_move (.inl rfl) rfl) (fun a135 hM134 => ?_)
            clear hM132
            refine s_val hM134 (.inl rfl) rfl rfl (ev_fldw (m := 1) rfl rfl (fun w => by simp [go_sem])) (fun a137 hM136 => ?_)
            clear hM134
            refine s_val hM136 (.inl rfl) rfl rfl (ev_load1 (v := .int .i64 ((d j).z1)) rfl rfl ((KB105.out.on HB113.out).rng.at_ (m := 1) rfl) (isAgg_no Try.underlying3 rfl)) (fun a139 hM138 => ?_)
            clear hM136
            refine s_val hM138 (.inl rfl) rfl rfl (ev_fldw (m := 2) rfl rfl (fun w => by simp [go_sem])) (fun a141 hM140 => ?_)
            clear hM138
            refine s_val hM140 (.inl rfl) rfl rfl (ev_load1 (v := .int .i64 ((d j).z2)) rfl rfl ((KB105.out.on HB113.out).rng.at_ (m := 2) rfl) (isAgg_no Try.underlying3 rfl)) (fun a143 hM142 => ?_)
            clear hM140
            refine s_val hM142 (.inl rfl) rfl rfl (ev_fldw (m := 3) rfl rfl (fun w => by simp [go_sem])) (fun a145 hM144 => ?_)
            clear hM142
            refine s_val hM144 (.inl rfl) rfl rfl (ev_load1 (v := .int .i64 ((d j).z3)) rfl rfl ((KB105.out.on HB113.out).rng.at_ (m := 3) rfl) (isAgg_no Try.underlying3 rfl)) (fun a147 hM146 => ?_)
            clear hM144
            refine s_call hM146 (.inl rfl) rfl rfl (f := 46) (args := #[.pointer (some ⟨g, 0, none⟩), .int .i64 ((d j).z1), .int .i64 ((d j).z2), .int .i64 ((d j).z3)]) (ev_call hM146 rfl rfl rfl (fun w => by simp [go_sem]) _) (nx_Take (d j).z1 (d j).z2 (d j).z3 (HX.out.below HB113.out)) (fun e w148 hp => ?_)
            obtain ⟨V, rfl, hxs, ho, hN, hC⟩ := hp
            obtain ⟨AV, cV, rfl⟩ := own_slice ho
            have HX_ : Hid (NX w w148 g r (takeS S (d j).z1 (d j).z2 (d j).z3) S (fun q => q = tb ∨ (Value.slice AV (takeX S (d j).z1 (d j).z2 (d j).z3).length cV).ownBlock = some q) j) := hN
            have KB152 := hide ((KB105.out.on HB113.out).chg hC (fun e => e.2 rfl))
            have HV_ : Hid (OwnR w148 0 5 1 (.slice AV (takeX S (d j).z1 (d j).z2 (d j).z3).length cV) (takeX S (d j).z1 (d j).z2 (d j).z3).length (bytes8 (takeX S (d j).z1 (d j).z2 (d j).z3))) := ho
            clear HX hC HB110 HB113 KB105 
            have HX := HX_
            clear HX_
            have HV := HV_
            clear HV_
            have HB153 := hide HX.out.old
            have HB155 : Hid (Below w148.heap.size w148 w148) := Below.refl _ _
            refine ⟨_, rfl, fun a151 hM150 => ?_⟩
            clear hM146
            refine s_val hM150 (.inl rfl) rfl rfl (ev_move (.inl rfl) rfl) (fun a157 hM156 => ?_)
            clear hM150
            refine s_val hM156 (.inl rfl) rfl rfl (ev_ext (v := .slice AV ((takeX S (d j).z1 (d j).z2 (d j).z3).length) cV) rfl rfl rfl) (fun a159 hM158 => ?_)
            clear hM156
            refine s_val hM158 (.inl rfl) rfl rfl (ev_ext (v := .int .i64 ((takeC S (d j).z1 (d j).z2 (d j).z3))) rfl rfl rfl) (fun a161 hM160 => ?_)
            clear hM158
            refine s_val hM160 (.inl rfl) rfl rfl (ev_move (.inr rfl) rfl) (fun a163 hM162 => ?_)
            clear hM160
            refine s_val hM162 (.inl rfl) rfl rfl (ev_move (.inr rfl) rfl) (fun a165 hM164 => ?_)
            clear hM162
            refine seg_nil (hK133 _ _ ?_)
            clear hK133 K133 QK133
            have hM166 := hM164.cut7 (t1 := 0) (t2 := 3) (t3 := 4) (t4 := 5) (t5 := 6) (t6 := 7) (t7 := 8) rfl rfl rfl rfl rfl rfl rfl
            clear hM164
            refine region_then fun K167 QK167 hK167 => ?_
            refine s_val hM166 (.inl rfl) rfl rfl (ev_move (.inl rfl) rfl) (fun a169 hM168 => ?_)
            clear hM166
            refine s_val hM168 (.inl rfl) rfl rfl (ev_fldw (m := 1) rfl rfl (fun w => by simp [go_sem])) (fun a171 hM170 => ?_)
            clear hM168
            refine s_val hM170 (.inl rfl) rfl rfl (ev_load1 (v := .int .i64 ((d j).z1)) rfl rfl ((KB152.out.on HB155.out).rng.at_ (m := 1) rfl) (isAgg_no Try.underlying3 rfl)) (fun a173 hM172 => ?_)
            clear hM170
            refine s_val hM172 (.inl rfl) rfl rfl (ev_fldw (m := 2) rfl rfl (fun w => by simp [go_sem])) (fun a175 hM174 => ?_)
            clear hM172
            refine s_val hM174 (.inl rfl) rfl rfl (ev_load1 (v := .int .i64 ((d j).z2)) rfl rfl ((KB152.out.on HB155.out).rng.at_ (m := 2) rfl) (isAgg_no Try.underlying3 rfl)) (fun a177 hM176 => ?_)
            clear hM174
            refine s_val hM176 (.inl rfl) rfl rfl (ev_fldw (m := 3) rfl rfl (fun w => by simp [go_sem])) (fun a179 hM178 => ?_)
            clear hM176
            refine s_val hM178 (.inl rfl) rfl rfl (ev_load1 (v := .int .i64 ((d j).z3)) rfl rfl ((KB152.out.on HB155.out).rng.at_ (m := 3) rfl) (isAgg_no Try.underlying3 rfl)) (fun a181 hM180 => ?_)
            clear hM178
            refine s_call hM180 (.inl rfl) rfl rfl (f := 51) (args := #[.pointer (some ⟨r, 0, none⟩), .int .i64 ((d j).z1), .int .i64 ((d j).z2), .int .i64 ((d j).z3)]) (ev_call hM180 rfl rfl rfl (fun w => by simp [go_sem]) _) (rx_Take (d j).z1 (d j).z2 (d j).z3 (HX.out.below HB155.out)) (fun e w182 hp => ?_)
            obtain ⟨A1, c1, rfl, hs, hN, hC⟩ := hp
            have HX_ : Hid (NX w w182 g r (takeS S (d j).z1 (d j).z2 (d j).z3) (takeS S (d j).z1 (d j).z2 (d j).z3) (fun q => q = tb ∨ (Value.slice AV (takeX S (d j).z1 (d j).z2 (d j).z3).length cV).ownBlock = some q) j) := hN
            have KB186 := hide ((KB152.out.on HB155.out).chg hC (fun e => e.2 (.inl rfl)))
            have HV_ : Hid (OwnR w182 0 5 1 (.slice AV (takeX S (d j).z1 (d j).z2 (d j).z3).length cV) (takeX S (d j).z1 (d j).z2 (d j).z3).length (bytes8 (takeX S (d j).z1 (d j).z2 (d j).z3))) := own_at (HV.out.below HB155.out) (fun b hb => hC.at_ (own_in (HV.out.below HB155.out) hb) (fun e => e.2 (.inr hb)))
            have HW_ : Hid (Sl w182 1 A1 (takeX S (d j).z1 (d j).z2 (d j).z3).length (bytes8 (takeX S (d j).z1 (d j).z2 (d j).z3))) := hs
            clear HX hC HB153 HB155 KB152 HV
            have HX := HX_
            clear HX_
            have HV := HV_
            clear HV_
            have HW := HW_
            clear HW_
            have HB187 := hide HX.out.old
            have HB189 : Hid (Below w182.heap.size w182 w182) := Below.refl _ _
            refine ⟨_, rfl, fun a185 hM184 => ?_⟩
            clear hM180
            refine s_val hM184 (.inl rfl) rfl rfl (ev_move (.inl rfl) rfl) (fun a191 hM190 => ?_)
            clear hM184
            refine s_val hM190 (.inl rfl) rfl rfl (ev_ext (v := .slice A1 ((takeX S (d j).z1 (d j).z2 (d j).z3).length) c1) rfl rfl rfl) (fun a193 hM192 => ?_)
            clear hM190
            refine s_val hM192 (.inl rfl) rfl rfl (ev_ext (v := .int .i64 ((takeC S (d j).z1 (d j).z2 (d j).z3))) rfl rfl rfl) (fun a195 hM194 => ?_)
            clear hM192
            refine s_val hM194 (.inl rfl) rfl rfl (ev_move (.inr rfl) rfl) (fun a197 hM196 => ?_)
            clear hM194
            refine s_val hM196 (.inl rfl) rfl rfl (ev_move (.inr rfl) rfl) (fun a199 hM198 => ?_)
            clear hM196
            refine seg_nil (hK167 _ _ ?_)
            clear hK167 K167 QK167
            have hM200 := hM198.cut9 (t1 := 0) (t2 := 3) (t3 := 4) (t4 := 5) (t5 := 6) (t6 := 7) (t7 := 8) (t8 := 9) (t9 := 10) rfl rfl rfl rfl rfl rfl rfl rfl rfl
            clear hM198
            refine wp_seq_k fun K201 hK201 => ?_
            refine region_then fun K202 QK202 hK202 => ?_
            refine s_val hM200 (.inl rfl) rfl rfl (ev_move (.inl rfl) rfl) (fun a204 hM203 => ?_)
            clear hM200
            refine s_call hM203 (.inl rfl) rfl rfl (f := 42) (args := #[.int .i64 ((takeC S (d j).z1 (d j).z2 (d j).z3))]) (ev_call hM203 rfl rfl rfl (fun w => by simp [go_sem]) _) (law12_num _ _) (fun e w205 hp => ?_)
            obtain ⟨rfl, rfl⟩ := hp
            refine ⟨_, rfl, fun a208 hM207 => ?_⟩
            clear hM203
            refine s_val hM207 (.inl rfl) rfl rfl (ev_move (.inl rfl) rfl) (fun a210 hM209 => ?_)
            clear hM207
            refine s_val hM209 (.inl rfl) rfl rfl (ev_bin rfl rfl rfl g_int (b_neq (b := false) (by simp))) (fun a212 hM211 => ?_)
            clear hM209
            refine s_val hM211 (.inl rfl) rfl rfl (ev_move (.inl rfl) rfl) (fun a214 hM213 => ?_)
            clear hM211
            refine s_val hM213 (.inr ⟨_, _, _, rfl, rfl, rfl⟩) rfl rfl (ev_move (.inl rfl) rfl) (fun a216 hM215 => ?_)
            clear hM213
            refine s_val hM215 (.inr ⟨_, _, _, rfl, rfl, rfl⟩) rfl rfl (ev_move (.inl rfl) rfl) (fun a218 hM217 => ?_)
            clear hM215
            refine s_call hM217 (.inr ⟨_, _, _, rfl, rfl, rfl⟩) rfl rfl (f := 26) (args := #[.slice AV ((takeX S (d j).z1 (d j).z2 (d j).z3).length) cV, .slice A1 ((takeX S (d j).z1 (d j).z2 (d j).z3).length) c1]) (ev_call hM217 rfl rfl rfl (fun w => by simp [go_sem]) _) (eqBytes_b (xs := (takeX S (d j).z1 (d j).z2 (d j).z3)) (ys := (takeX S (d j).z1 (d j).z2 (d j).z3)) _ (Sl.of_own (HV.out.below HB189.out)) (by omega) (HW.out.below HB189.out) (by omega) (r := true) (beq_self_eq_true (takeX S (d j).z1 (d j).z2 (d j).z3))) (fun e w219 hp => ?_)
            obtain ⟨rfl, hb220⟩ := hp
            refine ⟨_, rfl, fun a222 hM221 => ?_⟩
            clear hM217
            have HB223 := hide (below_then HB187.out hb220)
            have HB224 := hide (below_then HB189.out hb220)
            clear hb220 HB187 HB189
            refine s_val hM221 (.inr ⟨_, _, _, rfl, rfl, rfl⟩) rfl rfl (ev_not rfl rfl rfl) (fun a226 hM225 => ?_)
            clear hM221
            refine s_val hM225 (.inl rfl) rfl rfl (ev_pick rfl rfl rfl) (fun a228 hM227 => ?_)
            clear hM225
            refine seg_nil (hK202 _ _ ?_)
            clear hK202 K202 QK202
            have hM229 := hM227.cut7 (t1 := 0) (t2 := 3) (t3 := 4) (t4 := 5) (t5 := 6) (t6 := 7) (t7 := 97) rfl rfl rfl rfl rfl rfl rfl
            clear hM227
            refine wp_cond_false (hM229.ev (t := 97) rfl) ?_
            refine wp_skip ?_
            refine hK201 _ _ ?_
            refine region_last fun K230 QK230 hK230 => ?_
            refine s_val hM229 (.inl rfl) rfl rfl (ev_move (.inl rfl) rfl) (fun a232 hM231 => ?_)
            clear hM229
            refine s_call hM231 (.inl rfl) rfl rfl (f := 36) (args := #[.slice AV ((takeX S (d j).z1 (d j).z2 (d j).z3).length) cV]) (ev_call hM231 rfl rfl rfl (fun w => by simp [go_sem]) _) (law0_Bytes_chg _ (HV.out.below HB224.out) (Nat.zero_le _) (by omega)) (fun e w233 hp => ?_)
            obtain ⟨rfl, hC⟩ := hp
            have HX_ : Hid (NX w w233 g r (takeS S (d j).z1 (d j).z2 (d j).z3) (takeS S (d j).z1 (d j).z2 (d j).z3) (fun q => q = tb ∨ (Value.slice AV (takeX S (d j).z1 (d j).z2 (d j).z3).length cV).ownBlock = some q) j) := (HX.out.below HB224.out).loose hC (fun b hb => .inr hb)
            have KB237 := hide ((KB186.out.on HB224.out).chg hC (fun e => own_blk_ne (HV.out.below HB224.out) (KB186.out.on HB224.out) (by decide) e))
            clear HX hC HB223 HB224 KB186 
            have HX := HX_
            clear HX_
            have HB238 := hide HX.out.old
            have HB240 : Hid (Below w233.heap.size w233 w233) := Below.refl _ _
            refine ⟨_, rfl, fun a236 hM235 => ?_⟩
            clear hM231
            refine seg_nil (hK230 _ _ ?_)
            clear hK230 K230 QK230
            have hM241 := hM235.cut5 (t1 := 0) (t2 := 3) (t3 := 4) (t4 := 5) (t5 := 6) rfl rfl rfl rfl rfl
            clear hM235
            refine inb_n ?_
            have hM242 := hM241.cut5 (t1 := 0) (t2 := 3) (t3 := 4) (t4 := 5) (t5 := 6) rfl rfl rfl rfl rfl
            clear hM241
            exact jq_n ⟨(takeS S (d j).z1 (d j).z2 (d j).z3), hM242, (hide ((HX.out.below HB240.out).less (fun b hb => .inl hb) (by omega))), (hide (KB237.out.on HB240.out))⟩
          case neg =>
            refine region_then fun K243 QK243 hK243 => ?_
            refine s_val hM125 (.inl rfl) rfl rfl (ev_bin rfl rfl rfl g_int (b_eql (b := false) (by rw [decide_eq_false_iff_not]; omega))) (fun a245 hM244 => ?_)
            clear hM125
            refine s_val hM244 (.inl rfl) rfl rfl (ev_move (.inr rfl) rfl) (fun a247 hM246 => ?_)
            clear hM244
            refine seg_nil (hK243 _ _ ?_)
            clear hK243 K243 QK243
            have hM248 := hM246.cut7 (t1 := 0) (t2 := 3) (t3 := 4) (t4 := 5) (t5 := 6) (t6 := 39) (t7 := 63) rfl rfl rfl rfl rfl rfl rfl
            clear hM246
            refine wp_cond_false (hM248.ev (t := 63) rfl) ?_
            by_cases h6 : wiF (d j).z0 10 = 6
            case pos =>
              refine region_last fun K249 QK249 hK249 => ?_
              refine s_val hM248 (.inl rfl) rfl rfl (ev_bin rfl rfl rfl g_int (b_eql (b := true) (by rw [decide_eq_true_eq]; omega))) (fun a251 hM250 => ?_)
              clear hM248
              refine s_val hM250 (.inl rfl) rfl rfl (ev_move (.inr rfl) rfl) (fun a253 hM252 => ?_)
              clear hM250
              refine seg_nil (hK249 _ _ ?_)
              clear hK249 K249 QK249
              have hM254 := hM252.cut7 (t1 := 0) (t2 := 3) (t3 := 4) (t4 := 5) (t5 := 6) (t6 := 39) (t7 := 63) rfl rfl rfl rfl rfl rfl rfl
              clear hM252
              refine hK126 _ _ ?_
              refine wp_cond_true (hM254.ev (t := 63) rfl) ?_
              refine region_then fun K255 QK255 hK255 => ?_
              refine s_val hM254 (.inl rfl) rfl rfl (ev_move (.inl rfl) rfl) (fun a257 hM256 => ?_)
              clear hM254
              refine s_val hM256 (.inl rfl) rfl rfl (ev_fldw (m := 1) rfl rfl (fun w => by simp [go_sem])) (fun a259 hM258 => ?_)
              clear hM256
              refine s_val hM258 (.inl rfl) rfl rfl (ev_load1 (v := .int .i64 ((d j).z1)) rfl rfl ((KB105.out.on HB113.out).rng.at_ (m := 1) rfl) (isAgg_no Try.underlying3 rfl)) (fun a261 hM260 => ?_)
              clear hM258
              refine s_val hM260 (.inl rfl) rfl rfl (ev_fldw (m := 2) rfl rfl (fun w => by simp [go_sem])) (fun a263 hM262 => ?_)
              clear hM260
              refine s_val hM262 (.inl rfl) rfl rfl (ev_load1 (v := .int .i64 ((d j).z2)) rfl rfl ((KB105.out.on HB113.out).rng.at_ (m := 2) rfl) (isAgg_no Try.underlying3 rfl)) (fun a265 hM264 => ?_)
              clear hM262
              refine s_val hM264 (.inl rfl) rfl rfl (ev_fldw (m := 3) rfl rfl (fun w => by simp [go_sem])) (fun a267 hM266 => ?_)
              clear hM264
              refine s_val hM266 (.inl rfl) rfl rfl (ev_load1 (v := .int .i64 ((d j).z3)) rfl rfl ((KB105.out.on HB113.out).rng.at_ (m := 3) rfl) (isAgg_no Try.underlying3 rfl)) (fun a269 hM268 => ?_)
              clear hM266
              refine s_call hM268 (.inl rfl) rfl rfl (f := 46) (args := #[.pointer (some ⟨g, 0, none⟩), .int .i64 ((d j).z1), .int .i64 ((d j).z2), .int .i64 ((d j).z3)]) (ev_call hM268 rfl rfl rfl (fun w => by simp [go_sem]) _) (nx_Take (d j).z1 (d j).z2 (d j).z3 (HX.out.below HB113.out)) (fun e w270 hp => ?_)
              obtain ⟨V, rfl, hxs, ho, hN, hC⟩ := hp
              obtain ⟨AV, cV, rfl⟩ := own_slice ho
              have HX_ : Hid (NX w w270 g r (takeS S (d j).z1 (d j).z2 (d j).z3) S (fun q => q = tb ∨ (Value.slice AV (takeX S (d j).z1 (d j).z2 (d j).z3).length cV).ownBlock = some q) j) := hN
              have KB274 := hide ((KB105.out.on HB113.out).chg hC (fun e => e.2 rfl))
              have HV_ : Hid (OwnR w270 0 5 1 (.slice AV (takeX S (d j).z1 (d j).z2 (d j).z3).length cV) (takeX S (d j).z1 (d j).z2 (d j).z3).length (bytes8 (takeX S (d j).z1 (d j).z2 (d j).z3))) := ho
              clear HX hC HB110 HB113 KB105 
              have HX := HX_
              clear HX_
              have HV := HV_
              clear HV_
              have HB275 := hide HX.out.old
              have HB277 : Hid (Below w270.heap.size w270 w270) := Below.refl _ _
              refine ⟨_, rfl, fun a273 hM272 => ?_⟩
              clear hM268
              refine s_val hM272 (.inl rfl) rfl rfl (ev_move (.inl rfl) rfl) (fun a279 hM278 => ?_)
              clear hM272
              refine s_val hM278 (.inl rfl) rfl rfl (ev_ext (v := .slice AV ((takeX S (d j).z1 (d j).z2 (d j).z3).length) cV) rfl rfl rfl) (fun a281 hM280 => ?_)
              clear hM278
              refine s_val hM280 (.inl rfl) rfl rfl (ev_ext (v := .int .i64 ((takeC S (d j).z1 (d j).z2 (d j).z3))) rfl rfl rfl) (fun a283 hM282 => ?_)
              clear hM280
              refine s_val hM282 (.inl rfl) rfl rfl (ev_move (.inr rfl) rfl) (fun a285 hM284 => ?_)
              clear hM282
              refine s_val hM284 (.inl rfl) rfl rfl (ev_move (.inr rfl) rfl) (fun a287 hM286 => ?_)
              clear hM284
              refine seg_nil (hK255 _ _ ?_)
              clear hK255 K255 QK255
              have hM288 := hM286.cut7 (t1 := 0) (t2 := 3) (t3 := 4) (t4 := 5) (t5 := 6) (t6 := 7) (t7 := 8) rfl rfl rfl rfl rfl rfl rfl
              clear hM286
              refine region_then fun K289 QK289 hK289 => ?_
              refine s_val hM288 (.inl rfl) rfl rfl (ev_move (.inl rfl) rfl) (fun a291 hM290 => ?_)
              clear hM288
              refine s_val hM290 (.inl rfl) rfl rfl (ev_fldw (m := 1) rfl rfl (fun w => by simp [go_sem])) (fun a293 hM292 => ?_)
              clear hM290
              refine s_val hM292 (.inl rfl) rfl rfl (ev_load1 (v := .int .i64 ((d j).z1)) rfl rfl ((KB274.out.on HB277.out).rng.at_ (m := 1) rfl) (isAgg_no Try.underlying3 rfl)) (fun a295 hM294 => ?_)
              clear hM292
              refine s_val hM294 (.inl rfl) rfl rfl (ev_fldw (m := 2) rfl rfl (fun w => by simp [go_sem])) (fun a297 hM296 => ?_)
              clear hM294
              refine s_val hM296 (.inl rfl) rfl rfl (ev_load1 (v := .int .i64 ((d j).z2)) rfl rfl ((KB274.out.on HB277.out).rng.at_ (m := 2) rfl) (isAgg_no Try.underlying3 rfl)) (fun a299 hM298 => ?_)
              clear hM296
              refine s_val hM298 (.inl rfl) rfl rfl (ev_fldw (m := 3) rfl rfl (fun w => by simp [go_sem])) (fun a301 hM300 => ?_)
              clear hM298
              refine s_val hM300 (.inl rfl) rfl rfl (ev_load1 (v := .int .i64 ((d j).z3)) rfl rfl ((KB274.out.on HB277.out).rng.at_ (m := 3) rfl) (isAgg_no Try.underlying3 rfl)) (fun a303 hM302 => ?_)
              clear hM300
              refine s_call hM302 (.inl rfl) rfl rfl (f := 51) (args := #[.pointer (some ⟨r, 0, none⟩), .int .i64 ((d j).z1), .int .i64 ((d j).z2), .int .i64 ((d j).z3)]) (ev_call hM302 rfl rfl rfl (fun w => by simp [go_sem]) _) (rx_Take (d j).z1 (d j).z2 (d j).z3 (HX.out.below HB277.out)) (fun e w304 hp => ?_)
              obtain ⟨A1, c1, rfl, hs, hN, hC⟩ := hp
              have HX_ : Hid (NX w w304 g r (takeS S (d j).z1 (d j).z2 (d j).z3) (takeS S (d j).z1 (d j).z2 (d j).z3) (fun q => q = tb ∨ (Value.slice AV (takeX S (d j).z1 (d j).z2 (d j).z3).length cV).ownBlock = some q) j) := hN
              have KB308 := hide ((KB274.out.on HB277.out).chg hC (fun e => e.2 (.inl rfl)))
              have HV_ : Hid (OwnR w304 0 5 1 (.slice AV (takeX S (d j).z1 (d j).z2 (d j).z3).length cV) (takeX S (d j).z1 (d j).z2 (d j).z3).length (bytes8 (takeX S (d j).z1 (d j).z2 (d j).z3))) := own_at (HV.out.below HB277.out) (fun b hb => hC.at_ (own_in (HV.out.below HB277.out) hb) (fun e => e.2 (.inr hb)))
              have HW_ : Hid (Sl w304 1 A1 (takeX S (d j).z1 (d j).z2 (d j).z3).length (bytes8 (takeX S (d j).z1 (d j).z2 (d j).z3))) := hs
              clear HX hC HB275 HB277 KB274 HV
              have HX := HX_
              clear HX_
              have HV := HV_
              clear HV_
              have HW := HW_
              clear HW_
              have HB309 := hide HX.out.old
              have HB311 : Hid (Below w304.heap.size w304 w304) := Below.refl _ _
              refine ⟨_, rfl, fun a307 hM306 => ?_⟩
              clear hM302
              refine s_val hM306 (.inl rfl) rfl rfl (ev_move (.inl rfl) rfl) (fun a313 hM312 => ?_)
              clear hM306
              refine s_val hM312 (.inl rfl) rfl rfl (ev_ext (v := .slice A1 ((takeX S (d j).z1 (d j).z2 (d j).z3).length) c1) rfl rfl rfl) (fun a315 hM314 => ?_)
              clear hM312
              refine s_val hM314 (.inl rfl) rfl rfl (ev_ext (v := .int .i64 ((takeC S (d j).z1 (d j).z2 (d j).z3))) rfl rfl rfl) (fun a317 hM316 => ?_)
              clear hM314
              refine s_val hM316 (.inl rfl) rfl rfl (ev_move (.inr rfl) rfl) (fun a319 hM318 => ?_)
              clear hM316
              refine s_val hM318 (.inl rfl) rfl rfl (ev_move (.inr rfl) rfl) (fun a321 hM320 => ?_)
              clear hM318
              refine seg_nil (hK289 _ _ ?_)
              clear hK289 K289 QK289
              have hM322 := hM320.cut9 (t1 := 0) (t2 := 3) (t3 := 4) (t4 := 5) (t5 := 6) (t6 := 7) (t7 := 8) (t8 := 9) (t9 := 10) rfl rfl rfl rfl rfl rfl rfl rfl rfl
              clear hM320
              refine wp_seq_k fun K323 hK323 => ?_
              refine region_then fun K324 QK324 hK324 => ?_
              refine s_val hM322 (.inl rfl) rfl rfl (ev_move (.inl rfl) rfl) (fun a326 hM325 => ?_)
              clear hM322
              refine s_call hM325 (.inl rfl) rfl rfl (f := 42) (args := #[.int .i64 ((takeC S (d j).z1 (d j).z2 (d j).z3))]) (ev_call hM325 rfl rfl rfl (fun w => by simp [go_sem]) _) (law12_num _ _) (fun e w327 hp => ?_)
              obtain ⟨rfl, rfl⟩ := hp
              refine ⟨_, rfl, fun a330 hM329 => ?_⟩
              clear hM325
              refine s_val hM329 (.inl rfl) rfl rfl (ev_move (.inl rfl) rfl) (fun a332 hM331 => ?_)
              clear hM329
              refine s_val hM331 (.inl rfl) rfl rfl (ev_bin rfl rfl rfl g_int (b_neq (b := false) (by simp))) (fun a334 hM333 => ?_)
              clear hM331
              refine s_val hM333 (.inl rfl) rfl rfl (ev_move (.inl rfl) rfl) (fun a336 hM335 => ?_)
              clear hM333
              refine s_val hM335 (.inr ⟨_, _, _, rfl, rfl, rfl⟩) rfl rfl (ev_move (.inl rfl) rfl) (fun a338 hM337 => ?_)
              clear hM335
              refine s_val hM337 (.inr ⟨_, _, _, rfl, rfl, rfl⟩) rfl rfl (ev_move (.inl rfl) rfl) (fun a340 hM339 => ?_)
              clear hM337
              refine s_call hM339 (.inr ⟨_, _, _, rfl, rfl, rfl⟩) rfl rfl (f := 26) (args := #[.slice AV ((takeX S (d j).z1 (d j).z2 (d j).z3).length) cV, .slice A1 ((takeX S (d j).z1 (d j).z2 (d j).z3).length) c1]) (ev_call hM339 rfl rfl rfl (fun w => by simp [go_sem]) _) (eqBytes_b (xs := (takeX S (d j).z1 (d j).z2 (d j).z3)) (ys := (takeX S (d j).z1 (d j).z2 (d j).z3)) _ (Sl.of_own (HV.out.below HB311.out)) (by omega) (HW.out.below HB311.out) (by omega) (r := true) (beq_self_eq_true (takeX S (d j).z1 (d j).z2 (d j).z3))) (fun e w341 hp => ?_)
              obtain ⟨rfl, hb342⟩ := hp
              refine ⟨_, rfl, fun a344 hM343 => ?_⟩
              clear hM339
              have HB345 := hide (below_then HB309.out hb342)
              have HB346 := hide (below_then HB311.out hb342)
              clear hb342 HB309 HB311
              refine s_val hM343 (.inr ⟨_, _, _, rfl, rfl, rfl⟩) rfl rfl (ev_not rfl rfl rfl) (fun a348 hM347 => ?_)
              clear hM343
              refine s_val hM347 (.inl rfl) rfl rfl (ev_pick rfl rfl rfl) (fun a350 hM349 => ?_)
              clear hM347
              refine seg_nil (hK324 _ _ ?_)
              clear hK324 K324 QK324
              have hM351 := hM349.cut7 (t1 := 0) (t2 := 3) (t3 := 4) (t4 := 5) (t5 := 6) (t6 := 7) (t7 := 97) rfl rfl rfl rfl rfl rfl rfl
              clear hM349
              refine wp_cond_false (hM351.ev (t := 97) rfl) ?_
              refine wp_skip ?_
              refine hK323 _ _ ?_
              refine region_last fun K352 QK352 hK352 => ?_
              refine s_val hM351 (.inl rfl) rfl rfl (ev_move (.inl rfl) rfl) (fun a354 hM353 => ?_)
              clear hM351
              refine s_call hM353 (.inl rfl) rfl rfl (f := 36) (args := #[.slice AV ((takeX S (d j).z1 (d j).z2 (d j).z3).length) cV]) (ev_call hM353 rfl rfl rfl (fun w => by simp [go_sem]) _) (law0_Bytes_chg _ (HV.out.below HB346.out) (Nat.zero_le _) (by omega)) (fun e w355 hp => ?_)
              obtain ⟨rfl, hC⟩ := hp
              have HX_ : Hid (NX w w355 g r (takeS S (d j).z1 (d j).z2 (d j).z3) (takeS S (d j).z1 (d j).z2 (d j).z3) (fun q => q = tb ∨ (Value.slice AV (takeX S (d j).z1 (d j).z2 (d j).z3).length cV).ownBlock = some q) j) := (HX.out.below HB346.out).loose hC (fun b hb => .inr hb)
              have KB359 := hide ((KB308.out.on HB346.out).chg hC (fun e => own_blk_ne (HV.out.below HB346.out) (KB308.out.on HB346.out) (by decide) e))
              clear HX hC HB345 HB346 KB308 
              have HX := HX_
              clear HX_
              have HB360 := hide HX.out.old
              have HB362 : Hid (Below w355.heap.size w355 w355) := Below.refl _ _
              refine ⟨_, rfl, fun a358 hM357 => ?_⟩
              clear hM353
              refine seg_nil (hK352 _ _ ?_)
              clear hK352 K352 QK352
              have hM363 := hM357.cut5 (t1 := 0) (t2 := 3) (t3 := 4) (t4 := 5) (t5 := 6) rfl rfl rfl rfl rfl
              clear hM357
              refine inb_n ?_
              have hM364 := hM363.cut5 (t1 := 0) (t2 := 3) (t3 := 4) (t4 := 5) (t5 := 6) rfl rfl rfl rfl rfl
              clear hM363
              exact jq_n ⟨(takeS S (d j).z1 (d j).z2 (d j).z3), hM364, (hide ((HX.out.below HB362.out).less (fun b hb => .inl hb) (by omega))), (hide (KB359.out.on HB362.out))⟩
            case neg =>
              refine region_last fun K365 QK365 hK365 => ?_
              refine s_val hM248 (.inl rfl) rfl rfl (ev_bin rfl rfl rfl g_int (b_eql (b := false) (by rw [decide_eq_false_iff_not]; omega))) (fun a367 hM366 => ?_)
              clear hM248
              refine s_val hM366 (.inl rfl) rfl rfl (ev_move (.inr rfl) rfl) (fun a369 hM368 => ?_)
              clear hM366
              refine seg_nil (hK365 _ _ ?_)
              clear hK365 K365 QK365
              have hM370 := hM368.cut7 (t1 := 0) (t2 := 3) (t3 := 4) (t4 := 5) (t5 := 6) (t6 := 39) (t7 := 63) rfl rfl rfl rfl rfl rfl rfl
              clear hM368
              refine hK126 _ _ ?_
              refine wp_cond_false (hM370.ev (t := 63) rfl) ?_
              by_cases h7 : wiF (d j).z0 10 = 7
              case pos =>
                refine region_then fun K371 QK371 hK371 => ?_
                refine s_val hM370 (.inl rfl) rfl rfl (ev_bin rfl rfl rfl g_int (b_eql (b := true) (by rw [decide_eq_true_eq]; omega))) (fun a373 hM372 => ?_)
                clear hM370
                refine s_val hM372 (.inl rfl) rfl rfl (ev_move (.inr rfl) rfl) (fun a375 hM374 => ?_)
                clear hM372
                refine seg_nil (hK371 _ _ ?_)
                clear hK371 K371 QK371
                have hM376 := hM374.cut7 (t1 := 0) (t2 := 3) (t3 := 4) (t4 := 5) (t5 := 6) (t6 := 39) (t7 := 100) rfl rfl rfl rfl rfl rfl rfl
                clear hM374
                refine wp_cond_true (hM376.ev (t := 100) rfl) ?_
                have hX5 := (HX.out.below HB113.out)
                have hT5 := (KB105.out.on HB113.out)
                refine h_openS_cut 18 rfl (fun a w' => Frm a 183 [(0, .slice A n c), (3, .pointer (some ⟨g, 0, none⟩)), (4, .pointer (some ⟨r, 0, none⟩)), (5, .int .i64 (j : Int)), (6, .pointer (some ⟨tb, 0, none⟩)), (119, .bool false)] ∧ NX w w' g r (dblS S (d j).z1 (d j).z2 (d j).z3) (dblS S (d j).z1 (d j).z2 (d j).z3) (fun q => q = tb) (j + 1) ∧ Blk w' tb 68 (actC (d j))) (fun w' => Blk w' tb 68 (actC (d j))) (by kernel_rfl) (fun w377 hb378 => ?_) ?_
                ·
                  have hX6 := hX5.below hb378
                  have hT6 := hT5.on hb378
                  refine h_val 0 rfl (by kernel_rfl) (by kernel_rfl) (by kernel_rfl) hM376 (.inl rfl) rfl rfl hT6 (fun w' hr => (ev_move (.inl rfl) rfl)) (fun a380 hM379 => ?_)
                  refine h_val 1 rfl (by kernel_rfl) (by kernel_rfl) (by kernel_rfl) hM379 (.inl rfl) rfl rfl hT6 (fun w' hr => (ev_fldw (m := 1) rfl rfl (fun w => by simp [go_sem]))) (fun a382 hM381 => ?_)
                  clear hM379
                  refine h_val 2 rfl (by kernel_rfl) (by kernel_rfl) (by kernel_rfl) hM381 (.inl rfl) rfl rfl hT6 (fun w' hr => (ev_load1 (v := .int .i64 (d j).z1) rfl rfl (hr.rng.at_ (m := 1) rfl) (isAgg_no Try.underlying3 rfl))) (fun a384 hM383 => ?_)
                  clear hM381
                  refine h_val 3 rfl (by kernel_rfl) (by kernel_rfl) (by kernel_rfl) hM383 (.inl rfl) rfl rfl hT6 (fun w' hr => (ev_fldw (m := 2) rfl rfl (fun w => by simp [go_sem]))) (fun a386 hM385 => ?_)
                  clear hM383
                  refine h_val 4 rfl (by kernel_rfl) (by kernel_rfl) (by kernel_rfl) hM385 (.inl rfl) rfl rfl hT6 (fun w' hr => (ev_load1 (v := .int .i64 (d j).z2) rfl rfl (hr.rng.at_ (m := 2) rfl) (isAgg_no Try.underlying3 rfl))) (fun a388 hM387 => ?_)
                  clear hM385
                  refine h_val 5 rfl (by kernel_rfl) (by kernel_rfl) (by kernel_rfl) hM387 (.inl rfl) rfl rfl hT6 (fun w' hr => (ev_fldw (m := 3) rfl rfl (fun w => by simp [go_sem]))) (fun a390 hM389 => ?_)
                  clear hM387
                  refine h_val 6 rfl (by kernel_rfl) (by kernel_rfl) (by kernel_rfl) hM389 (.inl rfl) rfl rfl hT6 (fun w' hr => (ev_load1 (v := .int .i64 (d j).z3) rfl rfl (hr.rng.at_ (m := 3) rfl) (isAgg_no Try.underlying3 rfl))) (fun a392 hM391 => ?_)
                  clear hM389
                  refine h_val 9 rfl (by kernel_rfl) (by kernel_rfl) (by kernel_rfl) hM391 (.inl rfl) rfl rfl hT6 (fun w' hr => (ev_move (.inl rfl) rfl)) (fun a394 hM393 => ?_)
                  clear hM391
                  refine h_val 10 rfl (by kernel_rfl) (by kernel_rfl) (by kernel_rfl) hM393 (.inl rfl) rfl rfl hT6 (fun w' hr => (ev_fldw (m := 1) rfl rfl (fun w => by simp [go_sem]))) (fun a396 hM395 => ?_)
                  clear hM393
                  refine h_val 11 rfl (by kernel_rfl) (by kernel_rfl) (by kernel_rfl) hM395 (.inl rfl) rfl rfl hT6 (fun w' hr => (ev_load1 (v := .int .i64 (d j).z1) rfl rfl (hr.rng.at_ (m := 1) rfl) (isAgg_no Try.underlying3 rfl))) (fun a398 hM397 => ?_)
                  clear hM395
                  refine h_val 12 rfl (by kernel_rfl) (by kernel_rfl) (by kernel_rfl) hM397 (.inl rfl) rfl rfl hT6 (fun w' hr => (ev_fldw (m := 2) rfl rfl (fun w => by simp [go_sem]))) (fun a400 hM399 => ?_)
                  clear hM397
                  refine h_val 13 rfl (by kernel_rfl) (by kernel_rfl) (by kernel_rfl) hM399 (.inl rfl) rfl rfl hT6 (fun w' hr => (ev_load1 (v := .int .i64 (d j).z2) rfl rfl (hr.rng.at_ (m := 2) rfl) (isAgg_no Try.underlying3 rfl))) (fun a402 hM401 => ?_)
                  clear hM399
                  refine h_val 14 rfl (by kernel_rfl) (by kernel_rfl) (by kernel_rfl) hM401 (.inl rfl) rfl rfl hT6 (fun w' hr => (ev_fldw (m := 3) rfl rfl (fun w => by simp [go_sem]))) (fun a404 hM403 => ?_)
                  clear hM401
                  refine h_val 15 rfl (by kernel_rfl) (by kernel_rfl) (by kernel_rfl) hM403 (.inl rfl) rfl rfl hT6 (fun w' hr => (ev_load1 (v := .int .i64 (d j).z3) rfl rfl (hr.rng.at_ (m := 3) rfl) (isAgg_no Try.underlying3 rfl))) (fun a406 hM405 => ?_)
                  clear hM403
                  refine h_call 7 rfl (by kernel_rfl) hM405 (.inl rfl) rfl rfl (f := 44) (args := #[.pointer (some ⟨g, 0, none⟩), .int .i64 (d j).z1, .int .i64 (d j).z2, .int .i64 (d j).z3]) (ev_call hM405 rfl rfl rfl (fun w => by simp [go_sem]) _) (nx_Double (d j).z1 (d j).z2 (d j).z3 hX6) (fun e w7 hp => ?_)
                  obtain ⟨rfl, hX7, hC7⟩ := hp
                  have hT7 := hT6.chg hC7 (fun e => e.2 rfl)
                  refine ⟨_, rfl, fun a7 hM7 => ⟨hT7, ?_⟩⟩
                  refine h_call 8 rfl (by kernel_rfl) hM7 (.inl rfl) rfl rfl (f := 42) (args := #[.int .i64 (dblC S (d j).z1 (d j).z2 (d j).z3)]) (ev_call hM7 rfl rfl rfl (fun w => by simp [go_sem]) _) (law12_num _ _) (fun e w8 hp => ?_)
                  obtain ⟨rfl, rfl⟩ := hp
                  refine ⟨_, rfl, fun a8 hM8 => ⟨hT7, ?_⟩⟩
                  refine h_call 16 rfl (by kernel_rfl) hM8 (.inl rfl) rfl rfl (f := 52) (args := #[.pointer (some ⟨r, 0, none⟩), .int .i64 (d j).z1, .int .i64 (d j).z2, .int .i64 (d j).z3]) (ev_call hM8 rfl rfl rfl (fun w => by simp [go_sem]) _) (rx_Double (d j).z1 (d j).z2 (d j).z3 hX7 (by omega)) (fun e w16 hp => ?_)
                  obtain ⟨rfl, hX16, hC16⟩ := hp
                  have hT16 := hT7.chg hC16 (fun e => e.2 rfl)
                  refine ⟨_, rfl, fun a16 hM16 => ⟨hT16, ?_⟩⟩
                  refine h_val 17 rfl (by kernel_rfl) (by kernel_rfl) (by kernel_rfl) hM16 (.inl rfl) rfl rfl hT16 (fun w' hr => (ev_bin rfl rfl rfl g_int (b_neq (b := false) (by simp)))) (fun a17 hM17 => ?_)
                  exact h_nil (by kernel_rfl) ⟨hM17.cut6 (t1 := 0) (t2 := 3) (t3 := 4) (t4 := 5) (t5 := 6) (t6 := 119) rfl rfl rfl rfl rfl rfl, hX16, hT16⟩
                ·
                  clear HX hX5 hT5 hM376 HB110 HB113 KB105
                  rintro a409 w407 ⟨hM408, hN, hT⟩
                  have HX := hide hN
                  have KBd := hide hT
                  clear hN hT
                  have HB410 := hide HX.out.old
                  have HB412 : Hid (Below w407.heap.size w407 w407) := Below.refl _ _
                  refine wp_cond_false (hM408.ev (t := 119) rfl) ?_
                  refine wp_skip ?_
                  refine inb_n ?_
                  have hM413 := hM408.cut5 (t1 := 0) (t2 := 3) (t3 := 4) (t4 := 5) (t5 := 6) rfl rfl rfl rfl rfl
                  clear hM408
                  exact jq_n ⟨(dblS S (d j).z1 (d j).z2 (d j).z3), hM413, (hide ((HX.out.below HB412.out).less (fun b hb => hb) (by omega))), (hide (KBd.out.on HB412.out))⟩
              case neg =>
                refine region_then fun K414 QK414 hK414 => ?_
                refine s_val hM370 (.inl rfl) rfl rfl (ev_bin rfl rfl rfl g_int (b_eql (b := false) (by rw [decide_eq_false_iff_not]; omega))) (fun a416 hM415 => ?_)
                clear hM370
                refine s_val hM415 (.inl rfl) rfl rfl (ev_move (.inr rfl) rfl) (fun a418 hM417 => ?_)
                clear hM415
                refine seg_nil (hK414 _ _ ?_)
                clear hK414 K414 QK414
                have hM419 := hM417.cut7 (t1 := 0) (t2 := 3) (t3 := 4) (t4 := 5) (t5 := 6) (t6 := 39) (t7 := 100) rfl rfl rfl rfl rfl rfl rfl
                clear hM417
                refine wp_cond_false (hM419.ev (t := 100) rfl) ?_
                by_cases h8 : wiF (d j).z0 10 = 8
                case pos =>
                  refine region_then fun K420 QK420 hK420 => ?_
                  refine s_val hM419 (.inl rfl) rfl rfl (ev_bin rfl rfl rfl g_int (b_eql (b := true) (by rw [decide_eq_true_eq]; omega))) (fun a422 hM421 => ?_)
                  clear hM419
                  refine s_val hM421 (.inl rfl) rfl rfl (ev_move (.inr rfl) rfl) (fun a424 hM423 => ?_)
                  clear hM421
                  refine seg_nil (hK420 _ _ ?_)
                  clear hK420 K420 QK420
                  have hM425 := hM423.cut7 (t1 := 0) (t2 := 3) (t3 := 4) (t4 := 5) (t5 := 6) (t6 := 39) (t7 := 120) rfl rfl rfl rfl rfl rfl rfl
                  clear hM423
                  refine wp_cond_true (hM425.ev (t := 120) rfl) ?_
                  refine region_then fun K426 QK426 hK426 => ?_
                  refine s_val hM425 (.inl rfl) rfl rfl (ev_move (.inl rfl) rfl) (fun a428 hM427 => ?_)
                  clear hM425
                  refine s_val hM427 (.inl rfl) rfl rfl (ev_fldw (m := 1) rfl rfl (fun w => by simp [go_sem])) (fun a430 hM429 => ?_)
                  clear hM427
                  refine s_val hM429 (.inl rfl) rfl rfl (ev_load1 (v := .int .i64 ((d j).z1)) rfl rfl ((KB105.out.on HB113.out).rng.at_ (m := 1) rfl) (isAgg_no Try.underlying3 rfl)) (fun a432 hM431 => ?_)
                  clear hM429
                  refine s_val hM431 (.inl rfl) rfl rfl (ev_fldw (m := 2) rfl rfl (fun w => by simp [go_sem])) (fun a434 hM433 => ?_)
                  clear hM431
                  refine s_val hM433 (.inl rfl) rfl rfl (ev_load1 (v := .int .i64 ((d j).z2)) rfl rfl ((KB105.out.on HB113.out).rng.at_ (m := 2) rfl) (isAgg_no Try.underlying3 rfl)) (fun a436 hM435 => ?_)
                  clear hM433
                  refine s_val hM435 (.inl rfl) rfl rfl (ev_fldw (m := 3) rfl rfl (fun w => by simp [go_sem])) (fun a438 hM437 => ?_)
                  clear hM435
                  refine s_val hM437 (.inl rfl) rfl rfl (ev_load1 (v := .int .i64 ((d j).z3)) rfl rfl ((KB105.out.on HB113.out).rng.at_ (m := 3) rfl) (isAgg_no Try.underlying3 rfl)) (fun a440 hM439 => ?_)
                  clear hM437
                  refine s_call hM439 (.inl rfl) rfl rfl (f := 51) (args := #[.pointer (some ⟨r, 0, none⟩), .int .i64 ((d j).z1), .int .i64 ((d j).z2), .int .i64 ((d j).z3)]) (ev_call hM439 rfl rfl rfl (fun w => by simp [go_sem]) _) (rx_Take (d j).z1 (d j).z2 (d j).z3 (HX.out.below HB113.out)) (fun e w441 hp => ?_)
                  obtain ⟨A1, c1, rfl, hs, hN, hC⟩ := hp
                  have HX_ : Hid (NX w w441 g r S (takeS S (d j).z1 (d j).z2 (d j).z3) (fun q => q = tb) j) := hN
                  have KB445 := hide ((KB105.out.on HB113.out).chg hC (fun e => e.2 rfl))
                  have HW_ : Hid (Sl w441 1 A1 (takeX S (d j).z1 (d j).z2 (d j).z3).length (bytes8 (takeX S (d j).z1 (d j).z2 (d j).z3))) := hs
                  clear HX hC HB110 HB113 KB105 
                  have HX := HX_
                  clear HX_
                  have HW := HW_
                  clear HW_
                  have HB446 := hide HX.out.old
                  have HB448 : Hid (Below w441.heap.size w441 w441) := Below.refl _ _
                  refine ⟨_, rfl, fun a444 hM443 => ?_⟩
                  clear hM439
                  refine s_val hM443 (.inl rfl) rfl rfl (ev_move (.inl rfl) rfl) (fun a450 hM449 => ?_)
                  clear hM443
                  refine s_val hM449 (.inl rfl) rfl rfl (ev_ext (v := .slice A1 ((takeX S (d j).z1 (d j).z2 (d j).z3).length) c1) rfl rfl rfl) (fun a452 hM451 => ?_)
                  clear hM449
                  refine s_val hM451 (.inl rfl) rfl rfl (ev_ext (v := .int .i64 ((takeC S (d j).z1 (d j).z2 (d j).z3))) rfl rfl rfl) (fun a454 hM453 => ?_)
                  clear hM451
                  refine s_val hM453 (.inl rfl) rfl rfl (ev_move (.inr rfl) rfl) (fun a456 hM455 => ?_)
                  clear hM453
                  refine s_val hM455 (.inl rfl) rfl rfl (ev_move (.inr rfl) rfl) (fun a458 hM457 => ?_)
                  clear hM455
                  refine seg_nil (hK426 _ _ ?_)
                  clear hK426 K426 QK426
                  have hM459 := hM457.cut6 (t1 := 0) (t2 := 3) (t3 := 4) (t4 := 5) (t5 := 6) (t6 := 12) rfl rfl rfl rfl rfl rfl
                  clear hM457
                  refine region_then fun K460 QK460 hK460 => ?_
                  refine s_val hM459 (.inl rfl) rfl rfl (ev_move (.inl rfl) rfl) (fun a462 hM461 => ?_)
                  clear hM459
                  refine s_val hM461 (.inl rfl) rfl rfl (ev_fldw (m := 1) rfl rfl (fun w => by simp [go_sem])) (fun a464 hM463 => ?_)
                  clear hM461
                  refine s_val hM463 (.inl rfl) rfl rfl (ev_load1 (v := .int .i64 ((d j).z1)) rfl rfl ((KB445.out.on HB448.out).rng.at_ (m := 1) rfl) (isAgg_no Try.underlying3 rfl)) (fun a466 hM465 => ?_)
                  clear hM463
                  refine s_val hM465 (.inl rfl) rfl rfl (ev_fldw (m := 2) rfl rfl (fun w => by simp [go_sem])) (fun a468 hM467 => ?_)
                  clear hM465
                  refine s_val hM467 (.inl rfl) rfl rfl (ev_load1 (v := .int .i64 ((d j).z2)) rfl rfl ((KB445.out.on HB448.out).rng.at_ (m := 2) rfl) (isAgg_no Try.underlying3 rfl)) (fun a470 hM469 => ?_)
                  clear hM467
                  refine s_val hM469 (.inl rfl) rfl rfl (ev_fldw (m := 3) rfl rfl (fun w => by simp [go_sem])) (fun a472 hM471 => ?_)
                  clear hM469
                  refine s_val hM471 (.inl rfl) rfl rfl (ev_load1 (v := .int .i64 ((d j).z3)) rfl rfl ((KB445.out.on HB448.out).rng.at_ (m := 3) rfl) (isAgg_no Try.underlying3 rfl)) (fun a474 hM473 => ?_)
                  clear hM471
                  refine s_call hM473 (.inl rfl) rfl rfl (f := 53) (args := #[.pointer (some ⟨g, 0, none⟩), .int .i64 ((d j).z1), .int .i64 ((d j).z2), .int .i64 ((d j).z3)]) (ev_call hM473 rfl rfl rfl (fun w => by simp [go_sem]) _) (nx_Drop (d j).z1 (d j).z2 (d j).z3 (HX.out.below HB448.out)) (fun e w475 hp => ?_)
                  obtain ⟨rfl, hN, hC⟩ := hp
                  have HX_ : Hid (NX w w475 g r (takeS S (d j).z1 (d j).z2 (d j).z3) (takeS S (d j).z1 (d j).z2 (d j).z3) (fun q => q = tb) j) := hN
                  have KB479 := hide ((KB445.out.on HB448.out).chg hC (fun e => e.2 rfl))
                  clear HX hC HB446 HB448 KB445 
                  have HX := HX_
                  clear HX_
                  have HB480 := hide HX.out.old
                  have HB482 : Hid (Below w475.heap.size w475 w475) := Below.refl _ _
                  refine ⟨_, rfl, fun a478 hM477 => ?_⟩
                  clear hM473
                  refine s_call hM477 (.inl rfl) rfl rfl (f := 42) (args := #[.int .i64 ((takeC S (d j).z1 (d j).z2 (d j).z3))]) (ev_call hM477 rfl rfl rfl (fun w => by simp [go_sem]) _) (law12_num _ _) (fun e w483 hp => ?_)
                  obtain ⟨rfl, rfl⟩ := hp
                  refine ⟨_, rfl, fun a486 hM485 => ?_⟩
                  clear hM477
                  refine s_val hM485 (.inl rfl) rfl rfl (ev_move (.inl rfl) rfl) (fun a488 hM487 => ?_)
                  clear hM485
                  refine s_val hM487 (.inl rfl) rfl rfl (ev_bin rfl rfl rfl g_int (b_neq (b := false) (by simp))) (fun a490 hM489 => ?_)
                  clear hM487
                  refine seg_nil (hK460 _ _ ?_)
                  clear hK460 K460 QK460
                  have hM491 := hM489.cut6 (t1 := 0) (t2 := 3) (t3 := 4) (t4 := 5) (t5 := 6) (t6 := 143) rfl rfl rfl rfl rfl rfl
                  clear hM489
                  refine wp_cond_false (hM491.ev (t := 143) rfl) ?_
                  refine wp_skip ?_
                  refine inb_n ?_
                  have hM492 := hM491.cut5 (t1 := 0) (t2 := 3) (t3 := 4) (t4 := 5) (t5 := 6) rfl rfl rfl rfl rfl
                  clear hM491
                  exact jq_n ⟨(takeS S (d j).z1 (d j).z2 (d j).z3), hM492, (hide ((HX.out.below HB482.out).less (fun b hb => hb) (by omega))), (hide (KB479.out.on HB482.out))⟩
                case neg =>
                  refine region_then fun K493 QK493 hK493 => ?_
                  refine s_val hM419 (.inl rfl) rfl rfl (ev_bin rfl rfl rfl g_int (b_eql (b := false) (by rw [decide_eq_false_iff_not]; omega))) (fun a495 hM494 => ?_)
                  clear hM419
                  refine s_val hM494 (.inl rfl) rfl rfl (ev_move (.inr rfl) rfl) (fun a497 hM496 => ?_)
                  clear hM494
                  refine seg_nil (hK493 _ _ ?_)
                  clear hK493 K493 QK493
                  have hM498 := hM496.cut7 (t1 := 0) (t2 := 3) (t3 := 4) (t4 := 5) (t5 := 6) (t6 := 39) (t7 := 120) rfl rfl rfl rfl rfl rfl rfl
                  clear hM496
                  refine wp_cond_false (hM498.ev (t := 120) rfl) ?_
                  by_cases h9 : wiF (d j).z0 10 = 9
                  case pos =>
                    refine region_then fun K499 QK499 hK499 => ?_
                    refine s_val hM498 (.inl rfl) rfl rfl (ev_bin rfl rfl rfl g_int (b_eql (b := true) (by rw [decide_eq_true_eq]; omega))) (fun a501 hM500 => ?_)
                    clear hM498
                    refine s_val hM500 (.inl rfl) rfl rfl (ev_move (.inr rfl) rfl) (fun a503 hM502 => ?_)
                    clear hM500
                    refine seg_nil (hK499 _ _ ?_)
                    clear hK499 K499 QK499
                    have hM504 := hM502.cut7 (t1 := 0) (t2 := 3) (t3 := 4) (t4 := 5) (t5 := 6) (t6 := 39) (t7 := 144) rfl rfl rfl rfl rfl rfl rfl
                    clear hM502
                    refine wp_cond_true (hM504.ev (t := 144) rfl) ?_
                    refine region_then fun K505 QK505 hK505 => ?_
                    refine s_val hM504 (.inl rfl) rfl rfl (ev_move (.inl rfl) rfl) (fun a507 hM506 => ?_)
                    clear hM504
                    refine s_val hM506 (.inl rfl) rfl rfl (ev_fldw (m := 2) rfl rfl (fun w => by simp [go_sem])) (fun a509 hM508 => ?_)
                    clear hM506
                    refine s_val hM508 (.inl rfl) rfl rfl (ev_load1 (v := .int .i64 ((d j).z2)) rfl rfl ((KB105.out.on HB113.out).rng.at_ (m := 2) rfl) (isAgg_no Try.underlying3 rfl)) (fun a511 hM510 => ?_)
                    clear hM508
                    refine s_call hM510 (.inl rfl) rfl rfl (f := 50) (args := #[.pointer (some ⟨g, 0, none⟩), .int .i64 ((d j).z2)]) (ev_call hM510 rfl rfl rfl (fun w => by simp [go_sem]) _) (nx_Clear (d j).z2 (HX.out.below HB113.out)) (fun e w512 hp => ?_)
                    obtain ⟨rfl, hN, hC⟩ := hp
                    have HX_ : Hid (NX w w512 g r (clrA (d j).z2 S) S (fun q => q = tb) j) := hN
                    have KB516 := hide ((KB105.out.on HB113.out).chg hC (fun e => e.2 rfl))
                    clear HX hC HB110 HB113 KB105 
                    have HX := HX_
                    clear HX_
                    have HB517 := hide HX.out.old
                    have HB519 : Hid (Below w512.heap.size w512 w512) := Below.refl _ _
                    refine ⟨_, rfl, fun a515 hM514 => ?_⟩
                    clear hM510
                    refine seg_nil (hK505 _ _ ?_)
                    clear hK505 K505 QK505
                    have hM520 := hM514.cut5 (t1 := 0) (t2 := 3) (t3 := 4) (t4 := 5) (t5 := 6) rfl rfl rfl rfl rfl
                    clear hM514
                    refine region_last fun K521 QK521 hK521 => ?_
                    refine s_val hM520 (.inl rfl) rfl rfl (ev_move (.inl rfl) rfl) (fun a523 hM522 => ?_)
                    clear hM520
                    refine s_val hM522 (.inl rfl) rfl rfl (ev_fldw (m := 2) rfl rfl (fun w => by simp [go_sem])) (fun a525 hM524 => ?_)
                    clear hM522
                    refine s_val hM524 (.inl rfl) rfl rfl (ev_load1 (v := .int .i64 ((d j).z2)) rfl rfl ((KB516.out.on HB519.out).rng.at_ (m := 2) rfl) (isAgg_no Try.underlying3 rfl)) (fun a527 hM526 => ?_)
                    clear hM524
                    refine s_call hM526 (.inl rfl) rfl rfl (f := 54) (args := #[.pointer (some ⟨r, 0, none⟩), .int .i64 ((d j).z2)]) (ev_call hM526 rfl rfl rfl (fun w => by simp [go_sem]) _) (rx_Clear (d j).z2 (HX.out.below HB519.out)) (fun e w528 hp => ?_)
                    obtain ⟨rfl, hN, hC⟩ := hp
                    have HX_ : Hid (NX w w528 g r (clrA (d j).z2 S) (clrA (d j).z2 S) (fun q => q = tb) j) := hN
                    have KB532 := hide ((KB516.out.on HB519.out).chg hC (fun e => e.2 rfl))
                    clear HX hC HB517 HB519 KB516 
                    have HX := HX_
                    clear HX_
                    have HB533 := hide HX.out.old
                    have HB535 : Hid (Below w528.heap.size w528 w528) := Below.refl _ _
                    refine ⟨_, rfl, fun a531 hM530 => ?_⟩
                    clear hM526
                    refine seg_nil (hK521 _ _ ?_)
                    clear hK521 K521 QK521
                    have hM536 := hM530.cut5 (t1 := 0) (t2 := 3) (t3 := 4) (t4 := 5) (t5 := 6) rfl rfl rfl rfl rfl
                    clear hM530
                    refine inb_n ?_
                    have hM537 := hM536.cut5 (t1 := 0) (t2 := 3) (t3 := 4) (t4 := 5) (t5 := 6) rfl rfl rfl rfl rfl
                    clear hM536
                    exact jq_n ⟨(clrA (d j).z2 S), hM537, (hide ((HX.out.below HB535.out).less (fun b hb => hb) (by omega))), (hide (KB532.out.on HB535.out))⟩
                  case neg =>
                    refine region_then fun K538 QK538 hK538 => ?_
                    refine s_val hM498 (.inl rfl) rfl rfl (ev_bin rfl rfl rfl g_int (b_eql (b := false) (by rw [decide_eq_false_iff_not]; omega))) (fun a540 hM539 => ?_)
                    clear hM498
                    refine s_val hM539 (.inl rfl) rfl rfl (ev_move (.inr rfl) rfl) (fun a542 hM541 => ?_)
                    clear hM539
                    refine seg_nil (hK538 _ _ ?_)
                    clear hK538 K538 QK538
                    have hM543 := hM541.cut7 (t1 := 0) (t2 := 3) (t3 := 4) (t4 := 5) (t5 := 6) (t6 := 39) (t7 := 144) rfl rfl rfl rfl rfl rfl rfl
                    clear hM541
                    refine wp_cond_false (hM543.ev (t := 144) rfl) ?_
                    refine region_then fun K544 QK544 hK544 => ?_
                    refine s_val hM543 (.inl rfl) rfl rfl (ev_fldw (m := 4) rfl rfl (fun w => by simp [go_sem])) (fun a546 hM545 => ?_)
                    clear hM543
                    refine s_val hM545 (.inl rfl) rfl rfl (ev_load1 (v := .slice ((d j).A) ((d j).n) ((d j).c)) rfl rfl ((KB105.out.on HB113.out).rng.at_ (m := 4) rfl) (isAgg_no Try.underlying28 rfl)) (fun a548 hM547 => ?_)
                    clear hM545
                    refine s_call hM547 (.inl rfl) rfl rfl (f := 31) (args := #[.slice ((d j).A) ((d j).n) ((d j).c)]) (ev_call hM547 rfl rfl rfl (fun w => by simp [go_sem]) _) (ref0_CopyBytes (d j).A (d j).n (d j).c (d j).bs _ (((HF.out.below HB110.out)).all j hlt).sl (by omega) (by omega)) (fun e w549 hp => ?_)
                    obtain ⟨u, rfl, ou, hb550⟩ := hp
                    obtain ⟨AU, cU, rfl⟩ := own_slice ou
                    have HX_ : Hid (NX w w549 g r S S (fun q => q = tb ∨ (Value.slice AU (d j).n cU).ownBlock = some q) j) := hide ((HX.out.below HB113.out).add hb550 (fun b hb => hb.elim (fun h => .inl h) (fun h => .inr ⟨(ou.lt b h).1, own_in ou h⟩)))
                    have HU : Hid (OwnR w549 0 5 1 (.slice AU (d j).n cU) (d j).n (bytes8 (d j).bs)) := own_mono ou (Nat.zero_le _)
                    clear HX ou
                    have HX := HX_
                    clear HX_
                    refine ⟨_, rfl, fun a552 hM551 => ?_⟩
                    clear hM547
                    have HB553 := hide (below_then HB110.out hb550)
                    have HB554 := hide (below_then HB113.out hb550)
                    clear hb550 HB110 HB113
                    have HB556 : Hid (Below w549.heap.size w549 w549) := Below.refl _ _
                    refine s_val hM551 (.inl rfl) rfl rfl (ev_move (.inr rfl) rfl) (fun a558 hM557 => ?_)
                    clear hM551
                    refine seg_nil (hK544 _ _ ?_)
                    clear hK544 K544 QK544
                    have hM559 := hM557.cut6 (t1 := 0) (t2 := 3) (t3 := 4) (t4 := 5) (t5 := 6) (t6 := 13) rfl rfl rfl rfl rfl rfl
                    clear hM557
                    refine region_then fun K560 QK560 hK560 => ?_
                    refine s_val hM559 (.inl rfl) rfl rfl (ev_move (.inl rfl) rfl) (fun a562 hM561 => ?_)
                    clear hM559
                    refine s_val hM561 (.inl rfl) rfl rfl (ev_fldw (m := 1) rfl rfl (fun w => by simp [go_sem])) (fun a564 hM563 => ?_)
                    clear hM561
                    refine s_val hM563 (.inl rfl) rfl rfl (ev_load1 (v := .int .i64 ((d j).z1)) rfl rfl ((KB105.out.on HB554.out).rng.at_ (m := 1) rfl) (isAgg_no Try.underlying3 rfl)) (fun a566 hM565 => ?_)
                    clear hM563
                    refine s_val hM565 (.inl rfl) rfl rfl (ev_fldw (m := 2) rfl rfl (fun w => by simp [go_sem])) (fun a568 hM567 => ?_)
                    clear hM565
                    refine s_val hM567 (.inl rfl) rfl rfl (ev_load1 (v := .int .i64 ((d j).z2)) rfl rfl ((KB105.out.on HB554.out).rng.at_ (m := 2) rfl) (isAgg_no Try.underlying3 rfl)) (fun a570 hM569 => ?_)
                    clear hM567
                    refine s_val hM569 (.inl rfl) rfl rfl (ev_move (.inl rfl) rfl) (fun a572 hM571 => ?_)
                    clear hM569
                    refine s_call hM571 (.inl rfl) rfl rfl (f := 43) (args := #[.pointer (some ⟨g, 0, none⟩), .int .i64 ((d j).z1), .int .i64 ((d j).z2), .slice AU ((d j).n) cU]) (ev_call hM571 rfl rfl rfl (fun w => by simp [go_sem]) _) (nx_Put (d j).z1 (d j).z2 (HX.out.below HB556.out) (Sl.of_own (HU.out.below HB556.out)) (by omega)) (fun e w573 hp => ?_)
                    obtain ⟨rfl, hN, hC⟩ := hp
                    have HX_ : Hid (NX w w573 g r (putS S (d j).z1 (d j).z2 (d j).bs) S (fun q => q = tb ∨ (Value.slice AU (d j).n cU).ownBlock = some q) j) := hN
                    have KB577 := hide ((KB105.out.on HB554.out).chg hC (fun e => e.2 (.inl rfl)))
                    have HU_ : Hid (OwnR w573 0 5 1 (.slice AU (d j).n cU) (d j).n (bytes8 (d j).bs)) := own_at (HU.out.below HB556.out) (fun b hb => hC.at_ (own_in (HU.out.below HB556.out) hb) (fun e => e.2 (.inr hb)))
                    clear HX hC HB553 HB554 HB556 KB105 HU
                    have HX := HX_
                    clear HX_
                    have HU := HU_
                    clear HU_
                    have HB578 := hide HX.out.old
                    have HB580 : Hid (Below w573.heap.size w573 w573) := Below.refl _ _
                    refine ⟨_, rfl, fun a576 hM575 => ?_⟩
                    clear hM571
                    refine s_call hM575 (.inl rfl) rfl rfl (f := 42) (args := #[.int .i64 ((putC S (d j).z1 (d j).z2))]) (ev_call hM575 rfl rfl rfl (fun w => by simp [go_sem]) _) (law12_num _ _) (fun e w581 hp => ?_)
                    obtain ⟨rfl, rfl⟩ := hp
                    refine ⟨_, rfl, fun a584 hM583 => ?_⟩
                    clear hM575
                    refine s_val hM583 (.inl rfl) rfl rfl (ev_move (.inr rfl) rfl) (fun a586 hM585 => ?_)
                    clear hM583
                    refine seg_nil (hK560 _ _ ?_)
                    clear hK560 K560 QK560
                    have hM587 := hM585.cut7 (t1 := 0) (t2 := 3) (t3 := 4) (t4 := 5) (t5 := 6) (t6 := 13) (t7 := 14) rfl rfl rfl rfl rfl rfl rfl
                    clear hM585
                    refine region_then fun K588 QK588 hK588 => ?_
                    refine s_val hM587 (.inl rfl) rfl rfl (ev_move (.inl rfl) rfl) (fun a590 hM589 => ?_)
                    clear hM587
                    refine s_call hM589 (.inl rfl) rfl rfl (f := 36) (args := #[.slice AU ((d j).n) cU]) (ev_call hM589 rfl rfl rfl (fun w => by simp [go_sem]) _) (law0_Bytes_chg _ (HU.out.below HB580.out) (Nat.zero_le _) (by omega)) (fun e w591 hp => ?_)
                    obtain ⟨rfl, hC⟩ := hp
                    have HX_ : Hid (NX w w591 g r (putS S (d j).z1 (d j).z2 (d j).bs) S (fun q => q = tb ∨ (Value.slice AU (d j).n cU).ownBlock = some q) j) := (HX.out.below HB580.out).loose hC (fun b hb => .inr hb)
                    have KB595 := hide ((KB577.out.on HB580.out).chg hC (fun e => own_blk_ne (HU.out.below HB580.out) (KB577.out.on HB580.out) (by decide) e))
                    clear HX hC HB578 HB580 KB577 
                    have HX := HX_
                    clear HX_
                    have HB596 := hide HX.out.old
                    have HB598 : Hid (Below w591.heap.size w591 w591) := Below.refl _ _
                    refine ⟨_, rfl, fun a594 hM593 => ?_⟩
                    clear hM589
                    refine seg_nil (hK588 _ _ ?_)
                    clear hK588 K588 QK588
                    have hM599 := hM593.cut6 (t1 := 0) (t2 := 3) (t3 := 4) (t4 := 5) (t5 := 6) (t6 := 14) rfl rfl rfl rfl rfl rfl
                    clear hM593
                    refine region_then fun K600 QK600 hK600 => ?_
                    refine s_val hM599 (.inl rfl) rfl rfl (ev_move (.inl rfl) rfl) (fun a602 hM601 => ?_)
                    clear hM599
                    refine s_val hM601 (.inl rfl) rfl rfl (ev_move (.inl rfl) rfl) (fun a604 hM603 => ?_)
                    clear hM601
                    refine s_val hM603 (.inl rfl) rfl rfl (ev_fldw (m := 1) rfl rfl (fun w => by simp [go_sem])) (fun a606 hM605 => ?_)
                    clear hM603
                    refine s_val hM605 (.inl rfl) rfl rfl (ev_load1 (v := .int .i64 ((d j).z1)) rfl rfl ((KB595.out.on HB598.out).rng.at_ (m := 1) rfl) (isAgg_no Try.underlying3 rfl)) (fun a608 hM607 => ?_)
                    clear hM605
                    refine s_val hM607 (.inl rfl) rfl rfl (ev_fldw (m := 2) rfl rfl (fun w => by simp [go_sem])) (fun a610 hM609 => ?_)
                    clear hM607
                    refine s_val hM609 (.inl rfl) rfl rfl (ev_load1 (v := .int .i64 ((d j).z2)) rfl rfl ((KB595.out.on HB598.out).rng.at_ (m := 2) rfl) (isAgg_no Try.underlying3 rfl)) (fun a612 hM611 => ?_)
                    clear hM609
                    refine s_val hM611 (.inl rfl) rfl rfl (ev_fldw (m := 4) rfl rfl (fun w => by simp [go_sem])) (fun a614 hM613 => ?_)
                    clear hM611
                    refine s_val hM613 (.inl rfl) rfl rfl (ev_load1 (v := .slice ((d j).A) ((d j).n) ((d j).c)) rfl rfl ((KB595.out.on HB598.out).rng.at_ (m := 4) rfl) (isAgg_no Try.underlying28 rfl)) (fun a616 hM615 => ?_)
                    clear hM613
                    refine s_call hM615 (.inl rfl) rfl rfl (f := 55) (args := #[.pointer (some ⟨r, 0, none⟩), .int .i64 ((d j).z1), .int .i64 ((d j).z2), .slice ((d j).A) ((d j).n) ((d j).c)]) (ev_call hM615 rfl rfl rfl (fun w => by simp [go_sem]) _) (rx_Put (d j).z1 (d j).z2 (HX.out.below HB598.out) (by omega) (HF.out.all j hlt).sl (by omega)) (fun e w617 hp => ?_)
                    obtain ⟨rfl, hN, hC⟩ := hp
                    have HX_ : Hid (NX w w617 g r (putS S (d j).z1 (d j).z2 (d j).bs) (putS S (d j).z1 (d j).z2 (d j).bs) (fun q => q = tb ∨ (Value.slice AU (d j).n cU).ownBlock = some q) (j + 1)) := hN
                    have KB621 := hide ((KB595.out.on HB598.out).chg hC (fun e => e.2 (.inl rfl)))
                    clear HX hC HB596 HB598 KB595 
                    have HX := HX_
                    clear HX_
                    have HB622 := hide HX.out.old
                    have HB624 : Hid (Below w617.heap.size w617 w617) := Below.refl _ _
                    refine ⟨_, rfl, fun a620 hM619 => ?_⟩
                    clear hM615
                    refine s_val hM619 (.inl rfl) rfl rfl (ev_bin rfl rfl rfl g_int (b_neq (b := false) (by simp))) (fun a626 hM625 => ?_)
                    clear hM619
                    refine seg_nil (hK600 _ _ ?_)
                    clear hK600 K600 QK600
                    have hM627 := hM625.cut6 (t1 := 0) (t2 := 3) (t3 := 4) (t4 := 5) (t5 := 6) (t6 := 62) rfl rfl rfl rfl rfl rfl
                    clear hM625
                    refine wp_cond_false (hM627.ev (t := 62) rfl) ?_
                    refine wp_skip ?_
                    refine inb_n ?_
                    have hM628 := hM627.cut5 (t1 := 0) (t2 := 3) (t3 := 4) (t4 := 5) (t5 := 6) rfl rfl rfl rfl rfl
                    clear hM627
                    exact jq_n ⟨(putS S (d j).z1 (d j).z2 (d j).bs), hM628, (hide ((HX.out.below HB624.out).less (fun b hb => .inl hb) (by omega))), (hide (KB621.out.on HB624.out))⟩
        ·
          clear HB110 HB113 hM125 HX KB105
          rintro a631 w629 ⟨S2, hM630, HX, KBj⟩
          have HB632 := hide HX.out.old
          have HB634 : Hid (Below w629.heap.size w629 w629) := Below.refl _ _
          refine hK115 _ _ ?_
          refine region_then fun K635 QK635 hK635 => ?_
          refine s_val hM630 (.inl rfl) rfl rfl (ev_move (.inr rfl) rfl) (fun a637 hM636 => ?_)
          clear hM630
          refine seg_nil (hK635 _ _ ?_)
          clear hK635 K635 QK635
          have hM638 := hM636.cut6 (t1 := 0) (t2 := 3) (t3 := 4) (t4 := 5) (t5 := 6) (t6 := 15) rfl rfl rfl rfl rfl rfl
          clear hM636
          have hM639 := hM638.cut6 (t1 := 15) (t2 := 0) (t3 := 3) (t4 := 4) (t5 := 5) (t6 := 6) rfl rfl rfl rfl rfl rfl
          clear hM638
          refine wp_block ?_
          refine wp_loop_ghost (fun m a w' => ∃ (i3 : Nat), m = 5 - i3 ∧ Frm a 183 [(15, .int .i64 (i3 : Int)), (0, .slice A n c), (3, .pointer (some ⟨g, 0, none⟩)), (4, .pointer (some ⟨r, 0, none⟩)), (5, .int .i64 ((j : Int))), (6, .pointer (some ⟨tb, 0, none⟩))] ∧ Hid (Below w.heap.size w w') ∧ Hid (NX w w' g r S2 S2 (fun q => q = tb) (j + 1)) ∧ Hid (Blk w' tb 68 (actC (d j))) ∧ i3 ≤ 5) 5 ⟨0,  by omega, hM639, HB632, (hide (HX.out.below HB634.out)), (hide (KBj.out.on HB634.out)), by omega⟩ ?_
          clear HB632 HB634 hM639 HX KBj
          rintro m644 a641 w640 ⟨i3, rfl, hM642, HB643, HX, KBi, hi5⟩
          have HB646 : Hid (Below w640.heap.size w640 w640) := Below.refl _ _
          refine wp_seq_k fun K647 hK647 => ?_
          by_cases hi4 : i3 ≤ 4
          case pos =>
            refine region_then fun K648 QK648 hK648 => ?_
            refine s_val hM642 (.inl rfl) rfl rfl (ev_move (.inl rfl) rfl) (fun a650 hM649 => ?_)
            clear hM642
            refine s_val hM649 (.inl rfl) rfl rfl (ev_bin rfl rfl rfl g_int (b_leq (b := true) (by rw [decide_eq_true_eq]; omega))) (fun a652 hM651 => ?_)
            clear hM649
            refine seg_nil (hK648 _ _ ?_)
            clear hK648 K648 QK648
            have hM653 := hM651.cut7 (t1 := 0) (t2 := 3) (t3 := 4) (t4 := 5) (t5 := 6) (t6 := 15) (t7 := 155) rfl rfl rfl rfl rfl rfl rfl
            clear hM651
            refine wp_cond_true (hM653.ev (t := 155) rfl) ?_
            refine wp_skip ?_
            refine hK647 _ _ ?_
            refine wp_seq_k fun K654 hK654 => ?_
            refine wp_block ?_
            refine q_open (by kernel_rfl) (by kernel_rfl) fun K655 hK655 => ?_
            refine q_val hM653 (.inl rfl) rfl rfl (fun m => (ev_move (.inl rfl) rfl)) (fun a657 hM656 => ?_)
            clear hM653
            refine q_val hM656 (.inl rfl) rfl rfl (fun m => (ev_fldw (m := 1) rfl rfl (fun w => by simp [go_sem]))) (fun a659 hM658 => ?_)
            clear hM656
            refine q_val hM658 (.inl rfl) rfl rfl (fun m => (ev_load1 (v := .int .i64 ((d j).z1)) rfl rfl (((KBi.out.on HB646.out).on (Wd.below m)).rng.at_ (m := 1) rfl) (isAgg_no Try.underlying3 rfl))) (fun a661 hM660 => ?_)
            clear hM658
            refine q_val hM660 (.inl rfl) rfl rfl (fun m => (ev_move (.inl rfl) rfl)) (fun a663 hM662 => ?_)
            clear hM660
            refine q_call hM662 (.inl rfl) rfl rfl (f := 45) (args := #[.pointer (some ⟨g, 0, none⟩), .int .i64 ((d j).z1), .int .i64 ((i3 : Int))]) (v := .int .i64 (((S2 ((d j).z1, (i3 : Int))).length : Int))) (ev_call hM662 rfl rfl rfl (fun w => by simp [go_sem])) (fun m => wd_same (nx_Count (d j).z1 (i3 : Int) ((HX.out.below HB646.out).below (Wd.below m)))) (fun a665 hM664 => ?_)
            clear hM662
            refine q_val hM664 (.inl rfl) rfl rfl (fun m => (ev_move (.inl rfl) rfl)) (fun a667 hM666 => ?_)
            clear hM664
            refine q_val hM666 (.inl rfl) rfl rfl (fun m => (ev_fldw (m := 1) rfl rfl (fun w => by simp [go_sem]))) (fun a669 hM668 => ?_)
            clear hM666
            refine q_val hM668 (.inl rfl) rfl rfl (fun m => (ev_load1 (v := .int .i64 ((d j).z1)) rfl rfl (((KBi.out.on HB646.out).on (Wd.below m)).rng.at_ (m := 1) rfl) (isAgg_no Try.underlying3 rfl))) (fun a671 hM670 => ?_)
            clear hM668
            refine q_val hM670 (.inl rfl) rfl rfl (fun m => (ev_move (.inl rfl) rfl)) (fun a673 hM672 => ?_)
            clear hM670
            refine q_call hM672 (.inl rfl) rfl rfl (f := 56) (args := #[.pointer (some ⟨r, 0, none⟩), .int .i64 ((d j).z1), .int .i64 ((i3 : Int))]) (v := .int .i64 (((S2 ((d j).z1, (i3 : Int))).length : Int))) (ev_call hM672 rfl rfl rfl (fun w => by simp [go_sem])) (fun m => wd_same (rx_Count (d j).z1 (i3 : Int) ((HX.out.below HB646.out).below (Wd.below m)))) (fun a675 hM674 => ?_)
            clear hM672
            refine q_val hM674 (.inl rfl) rfl rfl (fun m => (ev_bin rfl rfl rfl g_int (b_neq (b := false) (by simp)))) (fun a677 hM676 => ?_)
            clear hM674
            refine q_val hM676 (.inl rfl) rfl rfl (fun m => (ev_move (.inl rfl) rfl)) (fun a679 hM678 => ?_)
            clear hM676
            refine q_val hM678 (.inr ⟨_, _, _, rfl, rfl, rfl⟩) rfl rfl (fun m => (ev_move (.inl rfl) rfl)) (fun a681 hM680 => ?_)
            clear hM678
            refine q_val hM680 (.inr ⟨_, _, _, rfl, rfl, rfl⟩) rfl rfl (fun m => (ev_move (.inl rfl) rfl)) (fun a683 hM682 => ?_)
            clear hM680
            refine q_val hM682 (.inr ⟨_, _, _, rfl, rfl, rfl⟩) rfl rfl (fun m => (ev_fldw (m := 2) rfl rfl (fun w => by simp [go_sem]))) (fun a685 hM684 => ?_)
            clear hM682
            refine q_val hM684 (.inr ⟨_, _, _, rfl, rfl, rfl⟩) rfl rfl (fun m => (ev_load1 (v := .int .i64 ((d j).z2)) rfl rfl (((KBi.out.on HB646.out).on (Wd.below m)).rng.at_ (m := 2) rfl) (isAgg_no Try.underlying3 rfl))) (fun a687 hM686 => ?_)
            clear hM684
            refine q_call hM686 (.inr ⟨_, _, _, rfl, rfl, rfl⟩) rfl rfl (f := 45) (args := #[.pointer (some ⟨g, 0, none⟩), .int .i64 ((i3 : Int)), .int .i64 ((d j).z2)]) (v := .int .i64 (((S2 ((i3 : Int), (d j).z2)).length : Int))) (ev_call hM686 rfl rfl rfl (fun w => by simp [go_sem])) (fun m => wd_same (nx_Count (i3 : Int) (d j).z2 ((HX.out.below HB646.out).below (Wd.below m)))) (fun a689 hM688 => ?_)
            clear hM686
            refine q_val hM688 (.inr ⟨_, _, _, rfl, rfl, rfl⟩) rfl rfl (fun m => (ev_move (.inl rfl) rfl)) (fun a691 hM690 => ?_)
            clear hM688
            refine q_val hM690 (.inr ⟨_, _, _, rfl, rfl, rfl⟩) rfl rfl (fun m => (ev_move (.inl rfl) rfl)) (fun a693 hM692 => ?_)
            clear hM690
            refine q_val hM692 (.inr ⟨_, _, _, rfl, rfl, rfl⟩) rfl rfl (fun m => (ev_fldw (m := 2) rfl rfl (fun w => by simp [go_sem]))) (fun a695 hM694 => ?_)
            clear hM692
            refine q_val hM694 (.inr ⟨_, _, _, rfl, rfl, rfl⟩) rfl rfl (fun m => (ev_load1 (v := .int .i64 ((d j).z2)) rfl rfl (((KBi.out.on HB646.out).on (Wd.below m)).rng.at_ (m := 2) rfl) (isAgg_no Try.underlying3 rfl))) (fun a697 hM696 => ?_)
            clear hM694
            refine q_call hM696 (.inr ⟨_, _, _, rfl, rfl, rfl⟩) rfl rfl (f := 56) (args := #[.pointer (some ⟨r, 0, none⟩), .int .i64 ((i3 : Int)), .int .i64 ((d j).z2)]) (v := .int .i64 (((S2 ((i3 : Int), (d j).z2)).length : Int))) (ev_call hM696 rfl rfl rfl (fun w => by simp [go_sem])) (fun m => wd_same (rx_Count (i3 : Int) (d j).z2 ((HX.out.below HB646.out).below (Wd.below m)))) (fun a699 hM698 => ?_)
            clear hM696
            refine q_val hM698 (.inr ⟨_, _, _, rfl, rfl, rfl⟩) rfl rfl (fun m => (ev_bin rfl rfl rfl g_int (b_neq (b := false) (by simp)))) (fun a701 hM700 => ?_)
            clear hM698
            refine q_val hM700 (.inl rfl) rfl rfl (fun m => (ev_pick rfl rfl rfl)) (fun a703 hM702 => ?_)
            clear hM700
            refine wpQuiet_nil (hK655 _ fun w704 hb705 => ?_)
            clear hK655 K655
            have HB706 := hide (below_then HB643.out hb705)
            have HB707 := hide (below_then HB646.out hb705)
            clear hb705 HB643 HB646
            have hM708 := hM702.cut7 (t1 := 0) (t2 := 3) (t3 := 4) (t4 := 5) (t5 := 6) (t6 := 15) (t7 := 181) rfl rfl rfl rfl rfl rfl rfl
            clear hM702
            refine wp_cond_false (hM708.ev (t := 181) rfl) ?_
            refine wp_skip ?_
            refine inb_n ?_
            refine hK654 _ _ ?_
            refine region_last fun K709 QK709 hK709 => ?_
            refine s_val hM708 (.inl rfl) rfl rfl (ev_move (.inl rfl) rfl) (fun a711 hM710 => ?_)
            clear hM708
            refine s_val hM710 (.inl rfl) rfl rfl (ev_bin rfl rfl rfl g_int (b_add (r := ((i3 + 1 : Nat) : Int)) (by omega) (by omega))) (fun a713 hM712 => ?_)
            clear hM710
            refine s_val hM712 (.inl rfl) rfl rfl (ev_move (.inr rfl) rfl) (fun a715 hM714 => ?_)
            clear hM712
            refine seg_nil (hK709 _ _ ?_)
            clear hK709 K709 QK709
            have hM716 := hM714.cut6 (t1 := 0) (t2 := 3) (t3 := 4) (t4 := 5) (t5 := 6) (t6 := 15) rfl rfl rfl rfl rfl rfl
            clear hM714
            have hM717 := hM716.cut6 (t1 := 15) (t2 := 0) (t3 := 3) (t4 := 4) (t5 := 5) (t6 := 6) rfl rfl rfl rfl rfl rfl
            clear hM716
            exact ⟨5 - (i3 + 1), by omega, i3 + 1, rfl, hM717, HB706, (hide (HX.out.below HB707.out)), (hide (KBi.out.on HB707.out)), by omega⟩
          case neg =>
            refine region_then fun K718 QK718 hK718 => ?_
            refine s_val hM642 (.inl rfl) rfl rfl (ev_move (.inl rfl) rfl) (fun a720 hM719 => ?_)
            clear hM642
            refine s_val hM719 (.inl rfl) rfl rfl (ev_bin rfl rfl rfl g_int (b_leq (b := false) (by rw [decide_eq_false_iff_not]; omega))) (fun a722 hM721 => ?_)
            clear hM719
            refine seg_nil (hK718 _ _ ?_)
            clear hK718 K718 QK718
            have hM723 := hM721.cut7 (t1 := 0) (t2 := 3) (t3 := 4) (t4 := 5) (t5 := 6) (t6 := 15) (t7 := 155) rfl rfl rfl rfl rfl rfl rfl
            clear hM721
            refine wp_cond_false (hM723.ev (t := 155) rfl) ?_
            refine wp_exit ?_
            repeat (with_reducible refine th_e ?_)
            refine inb_e ?_
            refine inb_n ?_
            refine hK91 _ _ ?_
            refine region_last fun K724 QK724 hK724 => ?_
            refine s_val hM723 (.inl rfl) rfl rfl (ev_move (.inl rfl) rfl) (fun a726 hM725 => ?_)
            clear hM723
            refine s_val hM725 (.inl rfl) rfl rfl (ev_bin rfl rfl rfl g_int (b_add (r := ((j + 1 : Nat) : Int)) (by omega) (by omega))) (fun a728 hM727 => ?_)
            clear hM725
            refine s_val hM727 (.inl rfl) rfl rfl (ev_move (.inr rfl) rfl) (fun a730 hM729 => ?_)
            clear hM727
            refine seg_nil (hK724 _ _ ?_)
            clear hK724 K724 QK724
            have hM731 := hM729.cut4 (t1 := 0) (t2 := 3) (t3 := 4) (t4 := 5) rfl rfl rfl rfl
            clear hM729
            have hM732 := hM731.cut4 (t1 := 5) (t2 := 0) (t3 := 3) (t4 := 4) rfl rfl rfl rfl
            clear hM731
            exact ⟨n - (j + 1), by omega, j + 1, S2, rfl, hM732, HB643, (hide ((HX.out.below HB646.out).less (fun b hb => hb.elim) (Nat.le_refl _))), by omega, by omega⟩
      case neg =>
        refine region_then fun K733 QK733 hK733 => ?_
        refine s_val hM67 (.inl rfl) rfl rfl (ev_move (.inl rfl) rfl) (fun a735 hM734 => ?_)
        clear hM67
        refine s_val hM734 (.inl rfl) rfl rfl (ev_move (.inl rfl) rfl) (fun a737 hM736 => ?_)
        clear hM734
        refine s_val hM736 (.inl rfl) rfl rfl (ev_len rfl rfl Try.underlying62) (fun a739 hM738 => ?_)
        clear hM736
        refine s_val hM738 (.inl rfl) rfl rfl (ev_bin rfl rfl rfl g_int (b_lss (b := true) (by rw [decide_eq_true_eq]; omega))) (fun a741 hM740 => ?_)
        clear hM738
        refine s_val hM740 (.inl rfl) rfl rfl (ev_move (.inl rfl) rfl) (fun a743 hM742 => ?_)
        clear hM740
        refine s_val hM742 (.inr ⟨_, _, _, rfl, rfl, rfl⟩) rfl rfl (ev_move (.inl rfl) rfl) (fun a745 hM744 => ?_)
        clear hM742
        refine s_val hM744 (.inr ⟨_, _, _, rfl, rfl, rfl⟩) rfl rfl (ev_bin rfl rfl rfl g_int (b_lss (b := false) (by rw [decide_eq_false_iff_not]; omega))) (fun a747 hM746 => ?_)
        clear hM744
        refine s_val hM746 (.inl rfl) rfl rfl (ev_pick rfl rfl rfl) (fun a749 hM748 => ?_)
        clear hM746
        refine seg_nil (hK733 _ _ ?_)
        clear hK733 K733 QK733
        have hM750 := hM748.cut5 (t1 := 0) (t2 := 3) (t3 := 4) (t4 := 5) (t5 := 30) rfl rfl rfl rfl rfl
        clear hM748
        refine wp_cond_false (hM750.ev (t := 30) rfl) ?_
        refine wp_exit ?_
        repeat (with_reducible refine th_e ?_)
        refine inb_e ?_
        refine hK59 _ _ ?_
        refine region_then fun K751 QK751 hK751 => ?_
        refine s_call hM750 (.inl rfl) rfl rfl (f := 47) (args := #[]) (ev_call hM750 rfl rfl rfl (fun w => by simp [go_sem]) _) (law12_wakes _) (fun e w752 hp => ?_)
        obtain ⟨rfl, hb753⟩ := hp
        refine ⟨_, rfl, fun a755 hM754 => ?_⟩
        clear hM750
        have HB756 := hide (below_then HB68.out hb753)
        have HB757 := hide (below_then HB71.out hb753)
        clear hb753 HB68 HB71
        refine s_val hM754 (.inl rfl) rfl rfl (ev_move (.inr rfl) rfl) (fun a759 hM758 => ?_)
        clear hM754
        refine seg_nil (hK751 _ _ ?_)
        clear hK751 K751 QK751
        have hM760 := hM758.cut1 (t1 := 2) rfl
        clear hM758
        refine wp_ret ?_
        repeat (with_reducible first | refine th_r ?_ | refine inb_r ?_ | refine js_r ?_)
        refine ret_of (t := 2) rfl hM760 rfl ?_
        exact ⟨rfl, HB756.out⟩
    case neg =>
      refine region_then fun K761 QK761 hK761 => ?_
      refine s_val hM67 (.inl rfl) rfl rfl (ev_move (.inl rfl) rfl) (fun a763 hM762 => ?_)
      clear hM67
      refine s_val hM762 (.inl rfl) rfl rfl (ev_move (.inl rfl) rfl) (fun a765 hM764 => ?_)
      clear hM762
      refine s_val hM764 (.inl rfl) rfl rfl (ev_len rfl rfl Try.underlying62) (fun a767 hM766 => ?_)
      clear hM764
      refine s_val hM766 (.inl rfl) rfl rfl (ev_bin rfl rfl rfl g_int (b_lss (b := false) (by rw [decide_eq_false_iff_not]; omega))) (fun a769 hM768 => ?_)
      clear hM766
      refine s_val hM768 (.inl rfl) rfl rfl (ev_move (.inl rfl) rfl) (fun a771 hM770 => ?_)
      clear hM768
      refine s_skip hM770 rfl rfl rfl rfl rfl rfl (fun a773 hM772 => ?_)
      clear hM770
      refine s_skip hM772 rfl rfl rfl rfl rfl rfl (fun a775 hM774 => ?_)
      clear hM772
      refine s_val hM774 (.inl rfl) rfl rfl (ev_pick rfl rfl rfl) (fun a777 hM776 => ?_)
      clear hM774
      refine seg_nil (hK761 _ _ ?_)
      clear hK761 K761 QK761
      have hM778 := hM776.cut5 (t1 := 0) (t2 := 3) (t3 := 4) (t4 := 5) (t5 := 30) rfl rfl rfl rfl rfl
      clear hM776
      refine wp_cond_false (hM778.ev (t := 30) rfl) ?_
      refine wp_exit ?_
      repeat (with_reducible refine th_e ?_)
      refine inb_e ?_
      refine hK59 _ _ ?_
      refine region_then fun K779 QK779 hK779 => ?_
      refine s_call hM778 (.inl rfl) rfl rfl (f := 47) (args := #[]) (ev_call hM778 rfl rfl rfl (fun w => by simp [go_sem]) _) (law12_wakes _) (fun e w780 hp => ?_)
      obtain ⟨rfl, hb781⟩ := hp
      refine ⟨_, rfl, fun a783 hM782 => ?_⟩
      clear hM778
      have HB784 := hide (below_then HB68.out hb781)
      have HB785 := hide (below_then HB71.out hb781)
      clear hb781 HB68 HB71
      refine s_val hM782 (.inl rfl) rfl rfl (ev_move (.inr rfl) rfl) (fun a787 hM786 => ?_)
      clear hM782
      refine seg_nil (hK779 _ _ ?_)
      clear hK779 K779 QK779
      have hM788 := hM786.cut1 (t1 := 2) rfl
      clear hM786
      refine wp_ret ?_
      repeat (with_reducible first | refine th_r ?_ | refine inb_r ?_ | refine js_r ?_)
      refine ret_of (t := 2) rfl hM788 rfl ?_
      exact ⟨rfl, HB784.out⟩
end Go.Proofs.Ytflamhndmggiaaa
