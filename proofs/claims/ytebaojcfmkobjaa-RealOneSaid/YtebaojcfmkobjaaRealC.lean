/-
  Contracts: whether a message is real by a judge; the code's Check.
-/
import Derived.Test.YtebaojcfmkobjaaRealB
set_option linter.unusedVariables false
set_option linter.unusedSimpArgs false
namespace Go.Proofs.Ytebaojcfmkobjaa
open Go.RowKit

def chkE (L : List (List UInt8)) (sg : Int × Int → Bool) (ls : List Int) (n : Int) (x : MsD) : Int := if mayM n x then (if realB L sg ls x then 0 else 7) else 1
theorem Sl.one_ {w : World} {g : Nat} {t : TypeId} {v : Value} (h : Blk w g t #[v]) : Sl w 1 (some ⟨g, 0, none⟩) 1 [v] := by
  refine ⟨rfl, fun _ => ⟨g, 0, rfl, h.lt, fun j u hu => ?_⟩⟩
  match j, hu with
  | 0, hu => simp at hu; subst hu; exact h.at_ rfl
theorem real_13 {L : List (List UInt8)} {sg : Int × Int → Bool} {ls : List Int} {x : MsD} (h : x.k = 1 ∨ x.k = 3) : realB L sg ls x = (isB L x.d (batchB x.b.a x.b.n x.b.l) && byB sg ls x.b.a x.d) := by unfold realB; rw [if_pos h]
theorem real_4 {L : List (List UInt8)} {sg : Int × Int → Bool} {ls : List Int} {x : MsD} (h : x.k = 4) : realB L sg ls x = (isB L x.d (headerB x.h) && byB sg ls x.f x.d) := by unfold realB; rw [if_neg (by omega), if_pos h]
theorem real_6 {L : List (List UInt8)} {sg : Int × Int → Bool} {ls : List Int} {x : MsD} (h : x.k = 6) : realB L sg ls x = certB L sg ls x.c := by unfold realB; rw [if_neg (by omega), if_neg (by omega), if_pos h]
theorem real_5 {L : List (List UInt8)} {sg : Int × Int → Bool} {ls : List Int} {x : MsD} (h : x.k = 5) : realB L sg ls x = (decide (x.d ≤ (L.length : Int)) && byB sg ls x.f x.d) := by unfold realB; rw [if_neg (by omega), if_neg (by omega), if_neg (by omega), if_pos h]
theorem real_2 {L : List (List UInt8)} {sg : Int × Int → Bool} {ls : List Int} {x : MsD} (h : x.k = 2) : realB L sg ls x = decide (x.d ≤ (L.length : Int)) := by unfold realB; rw [if_neg (by omega), if_neg (by omega), if_neg (by omega), if_neg (by omega), if_pos h]
theorem real_78 {L : List (List UInt8)} {sg : Int × Int → Bool} {ls : List Int} {x : MsD} (h : x.k = 7 ∨ x.k = 8) : realB L sg ls x = knownB L x.s := by unfold realB; rw [if_neg (by omega), if_neg (by omega), if_neg (by omega), if_neg (by omega), if_neg (by omega)]

theorem sub_ct {x : MsD} {v : MsV} {C D : Array Value} (h : C = msC x v) (hd : D = ctC x v) : ∀ j z, D[j]? = some z → C[11 + j]? = some z := sub_cert h hd

set_option maxRecDepth 100000 in
set_option maxHeartbeats 4000000 in
theorem judge_real {G : Nat → Prop} {g : Nat} {L : List (List UInt8)} {sg : Int × Int → Bool} {A : Option Addr} {n c : Nat} {ls : List Int} (N : Int) (x : MsD) (v : MsV) (w : World) {JC : Array Value} (HJ : Hid (JC = jdC g A n c)) (HB : Hid (BkI G w g L sg)) (HL : Hid (Sl w 1 A n (ints ls))) (hn : n ≤ 9223372036854775807) (HS : Hid (MsS w x v)) (HZ : Hid (MsZ x v)) {C : Array Value} (HC : Hid (C = msC x v)) (HM : Hid (mayM N x = true)) {r : Bool} (hr : Hid (realB L sg ls x = r)) :
    Calls Try.prog 44 #[.agg JC, .agg C] w fun e w' => e = .returned (.bool r) ∧ Below w.heap.size w w' := by

  go_enter Try.func44, Try.ntmps44
  refine act_off 89 [(0, .agg JC), (1, .agg C)] (Frm.start rfl (by intro p hp; simp only [List.mem_cons, List.not_mem_nil, or_false] at hp; rcases hp with rfl | rfl <;> rfl)) (fun a0 hM => ?_)
  have HB2 : Hid (Below w.heap.size w w) := Below.refl _ _
  refine region_then fun K3 QK3 hK3 => ?_
  refine s_alloc (e := 80) hM (.inl rfl) rfl rfl (V := fun g => .pointer (some ⟨g, 0, none⟩)) (ev_box hM rfl rfl) (fun g4 a10 w5 hM9 KB8_ hb6 hg7 => ?_)
  have KB8 := hide KB8_
  clear hM KB8_
  clear hg7
  have HB11 := hide (below_then HB2.out hb6)
  clear hb6 HB2
  have HB13 : Hid (Below w5.heap.size w5 w5) := Below.refl _ _
  refine s_alloc (e := 42) hM9 (.inl rfl) rfl rfl (V := fun g => .pointer (some ⟨g, 0, none⟩)) (ev_box hM9 rfl rfl) (fun g14 a20 w15 hM19 KB18_ hb16 hg17 => ?_)
  have KB18 := hide KB18_
  clear hM9 KB18_
  clear hg17
  have HB21 := hide (below_then HB11.out hb16)
  have HB22 := hide (below_then HB13.out hb16)
  clear hb16 HB11 HB13
  have HB24 : Hid (Below w15.heap.size w15 w15) := Below.refl _ _
  refine s_val hM19 (.inl rfl) rfl rfl (ev_move (.inr rfl) rfl) (fun a26 hM25 => ?_)
  clear hM19
  refine seg_nil (hK3 _ _ ?_)
  clear hK3 K3 QK3
  have hM27 := hM25.cut2 (t1 := 2) (t2 := 3) rfl rfl
  clear hM25
  refine wp_seq_k fun K28 hK28 => ?_
  refine region_then fun K29 QK29 hK29 => ?_
  refine s_val hM27 (.inl rfl) rfl rfl (ev_fldw (m := 0) rfl rfl (fun w => by simp [go_sem])) (fun a31 hM30 => ?_)
  clear hM27
  refine s_val hM30 (.inl rfl) rfl rfl (ev_load1 (v := .int .i64 (x.k)) rfl rfl ((KB18.out.on HB24.out).rng.at_ (m := 0) (by rw [HC.out]; rfl)) (isAgg_no Try.underlying3 rfl)) (fun a33 hM32 => ?_)
  clear hM30
  refine seg_nil (hK29 _ _ ?_)
  clear hK29 K29 QK29
  have hM34 := hM32.cut3 (t1 := 2) (t2 := 3) (t3 := 10) rfl rfl rfl
  clear hM32
  refine wp_block ?_
  refine wp_seq_k fun K35 hK35 => ?_
  obtain hk | hk | hk | hk | hk | hk | hk | hk := okM_kinds (mayM_iff.1 HM.out).2.1
  · skip
    have HR := hr.out
    rw [real_13 (.inl hk)] at HR
    have HR := hide HR
    have HBM := hide (may_b HM.out (by omega))
    have HD1 := hide (may_d HM.out (by omega)).1
    have HK := hide hk
    clear hk
    obtain ⟨BT, HBT⟩ : ∃ C : Array Value, Hid (C = btC x v) := ⟨_, rfl⟩
    have HRBT : Hid (Rng w15 g14 4 BT) := (((KB18.out.on HB24.out)).rng).sub 4 (sub_bt HC.out HBT.out)
    refine region_then fun K36 QK36 hK36 => ?_
    refine s_val hM34 (.inl rfl) rfl rfl (ev_bin rfl rfl rfl g_int (b_eql (b := true) (decide_eq_true HK.out))) (fun a38 hM37 => ?_)
    clear hM34
    refine s_val hM37 (.inl rfl) rfl rfl (ev_move (.inr rfl) rfl) (fun a40 hM39 => ?_)
    clear hM37
    refine seg_nil (hK36 _ _ ?_)
    clear hK36 K36 QK36
    have hM41 := hM39.cut4 (t1 := 2) (t2 := 3) (t3 := 10) (t4 := 11) rfl rfl rfl rfl
    clear hM39
    refine wp_cond_true (hM41.ev (t := 11) rfl) ?_
    refine wp_skip ?_
    refine hK35 _ _ ?_
    refine wp_cond_true (hM41.ev (t := 11) rfl) ?_
    refine region_then fun K42 QK42 hK42 => ?_
    refine s_val hM41 (.inl rfl) rfl rfl (ev_fldw (m := 4) rfl rfl (fun w => by simp [go_sem])) (fun a44 hM43 => ?_)
    clear hM41
    refine s_val hM43 (.inl rfl) rfl rfl (ev_loadm rfl rfl (HRBT.out.below HB24.out) Try.underlying36 rfl (by rw [HBT.out]; exact info_bat)) (fun a46 hM45 => ?_)
    clear hM43
    refine s_call hM45 (.inl rfl) rfl rfl (f := 68) (args := #[.agg BT]) (ev_call hM45 rfl rfl rfl (fun w => by simp [go_sem]) _) (by rw [HBT.out]; exact batch_Bytes_yes x.b.a x.b.n _ ((HS.out.below HB21.out)).tx HZ.out.txz HBM.out) (fun e w47 hp => ?_)
    obtain ⟨v', rfl, ho, hb48⟩ := hp
    obtain ⟨AH, cH, rfl⟩ := own_slice ho
    have HY := hide (Sl.of_own ho)
    clear ho
    refine ⟨_, rfl, fun a50 hM49 => ?_⟩
    clear hM45
    have HB51 := hide (below_then HB21.out hb48)
    have HB52 := hide (below_then HB22.out hb48)
    have HB53 := hide (below_then HB24.out hb48)
    clear hb48 HB21 HB22 HB24
    have HB55 : Hid (Below w47.heap.size w47 w47) := Below.refl _ _
    refine s_val hM49 (.inl rfl) rfl rfl (ev_move (.inl rfl) rfl) (fun a57 hM56 => ?_)
    clear hM49
    refine s_val hM56 (.inl rfl) rfl rfl (ev_ext rfl rfl rfl) (fun a59 hM58 => ?_)
    clear hM56
    refine s_val hM58 (.inl rfl) rfl rfl (ev_ext rfl rfl rfl) (fun a61 hM60 => ?_)
    clear hM58
    refine s_val hM60 (.inl rfl) rfl rfl (ev_move (.inr rfl) rfl) (fun a63 hM62 => ?_)
    clear hM60
    refine s_val hM62 (.inl rfl) rfl rfl (ev_move (.inr rfl) rfl) (fun a65 hM64 => ?_)
    clear hM62
    refine seg_nil (hK42 _ _ ?_)
    clear hK42 K42 QK42
    have hM66 := hM64.cut4 (t1 := 2) (t2 := 3) (t3 := 5) (t4 := 6) rfl rfl rfl rfl
    clear hM64
    obtain ⟨q, HI⟩ : ∃ q, Hid (isB L x.d (batchB x.b.a x.b.n x.b.l) = q) := ⟨_, rfl⟩
    rw [HI.out] at HR
    cases q
    case true =>
      have HBY := HR
      rw [Bool.true_and] at HBY
      refine region_then fun K67 QK67 hK67 => ?_
      refine s_val hM66 (.inl rfl) rfl rfl (ev_loadm rfl rfl (KB8.out.on HB52.out).rng Try.underlying80 rfl (by rw [HJ.out]; exact info_judge)) (fun a69 hM68 => ?_)
      clear hM66
      refine s_val hM68 (.inl rfl) rfl rfl (ev_fldw (m := 3) rfl rfl (fun w => by simp [go_sem])) (fun a71 hM70 => ?_)
      clear hM68
      refine s_val hM70 (.inl rfl) rfl rfl (ev_load1 (v := .int .i64 (x.d)) rfl rfl ((KB18.out.on HB53.out).rng.at_ (m := 3) (by rw [HC.out]; rfl)) (isAgg_no Try.underlying3 rfl)) (fun a73 hM72 => ?_)
      clear hM70
      refine s_val hM72 (.inl rfl) rfl rfl (ev_move (.inl rfl) rfl) (fun a75 hM74 => ?_)
      clear hM72
      refine s_val hM74 (.inl rfl) rfl rfl (ev_move (.inl rfl) rfl) (fun a77 hM76 => ?_)
      clear hM74
      refine s_call hM76 (.inl rfl) rfl rfl (f := 69) (args := #[.agg JC, .int .i64 (x.d), .slice AH ((batchB x.b.a x.b.n x.b.l).length) cH, .int .i64 0]) (ev_call hM76 rfl rfl rfl (fun w => by simp [go_sem]) _) (by rw [HJ.out]; exact judge_is (A := A) (n := n) (c := c) x.d _ (HB.out.below HB51.out) (HY.out.below HB55.out) (by have := batchB_le HBM.out; omega) HD1.out HI) (fun e w78 hp => ?_)
      obtain ⟨rfl, hb79⟩ := hp
      refine ⟨_, rfl, fun a81 hM80 => ?_⟩
      clear hM76
      have HB82 := hide (below_then HB51.out hb79)
      have HB83 := hide (below_then HB52.out hb79)
      have HB84 := hide (below_then HB53.out hb79)
      have HB85 := hide (below_then HB55.out hb79)
      clear hb79 HB51 HB52 HB53 HB55
      refine s_val hM80 (.inl rfl) rfl rfl (ev_move (.inl rfl) rfl) (fun a87 hM86 => ?_)
      clear hM80
      refine s_val hM86 (.inr ⟨_, _, _, rfl, rfl, rfl⟩) rfl rfl (ev_loadm rfl rfl (KB8.out.on HB83.out).rng Try.underlying80 rfl (by rw [HJ.out]; exact info_judge)) (fun a89 hM88 => ?_)
      clear hM86
      refine s_val hM88 (.inr ⟨_, _, _, rfl, rfl, rfl⟩) rfl rfl (ev_fldw (m := 4) rfl rfl (fun w => by simp [go_sem])) (fun a91 hM90 => ?_)
      clear hM88
      refine s_val hM90 (.inr ⟨_, _, _, rfl, rfl, rfl⟩) rfl rfl (ev_fldw (m := 4) rfl rfl (fun w => by simp [go_sem])) (fun a93 hM92 => ?_)
      clear hM90
      refine s_val hM92 (.inr ⟨_, _, _, rfl, rfl, rfl⟩) rfl rfl (ev_load1 (v := .int .i64 (x.b.a)) rfl rfl ((HRBT.out.below HB84.out).at_ (m := 0) (by rw [HBT.out]; rfl)) (isAgg_no Try.underlying3 rfl)) (fun a95 hM94 => ?_)
      clear hM92
      refine s_val hM94 (.inr ⟨_, _, _, rfl, rfl, rfl⟩) rfl rfl (ev_fldw (m := 3) rfl rfl (fun w => by simp [go_sem])) (fun a97 hM96 => ?_)
      clear hM94
      refine s_val hM96 (.inr ⟨_, _, _, rfl, rfl, rfl⟩) rfl rfl (ev_load1 (v := .int .i64 (x.d)) rfl rfl ((KB18.out.on HB84.out).rng.at_ (m := 3) (by rw [HC.out]; rfl)) (isAgg_no Try.underlying3 rfl)) (fun a99 hM98 => ?_)
      clear hM96
      refine s_call hM98 (.inr ⟨_, _, _, rfl, rfl, rfl⟩) rfl rfl (f := 70) (args := #[.agg JC, .int .i64 (x.b.a), .int .i64 (x.d)]) (ev_call hM98 rfl rfl rfl (fun w => by simp [go_sem]) _) (by rw [HJ.out]; exact judge_by x.b.a x.d _ (HB.out.below HB82.out) (HL.out.below HB82.out) hn HBY) (fun e w100 hp => ?_)
      obtain ⟨rfl, hb101⟩ := hp
      refine ⟨_, rfl, fun a103 hM102 => ?_⟩
      clear hM98
      have HB104 := hide (below_then HB82.out hb101)
      have HB105 := hide (below_then HB83.out hb101)
      have HB106 := hide (below_then HB84.out hb101)
      have HB107 := hide (below_then HB85.out hb101)
      clear hb101 HB82 HB83 HB84 HB85
      refine s_val hM102 (.inl rfl) rfl rfl (ev_pick rfl rfl rfl) (fun a109 hM108 => ?_)
      clear hM102
      refine s_val hM108 (.inl rfl) rfl rfl (ev_move (.inr rfl) rfl) (fun a111 hM110 => ?_)
      clear hM108
      refine seg_nil (hK67 _ _ ?_)
      clear hK67 K67 QK67
      have hM112 := hM110.cut3 (t1 := 2) (t2 := 3) (t3 := 4) rfl rfl rfl
      clear hM110
      refine wp_ret ?_
      repeat (with_reducible first | refine th_r ?_ | refine inb_r ?_ | refine js_r ?_)
      refine ret_of (t := 4) rfl hM112 rfl ?_
      exact ⟨rfl, HB104.out⟩
    case false =>
      have HNO := HR
      rw [Bool.false_and] at HNO
      have HNO := hide HNO.symm
      refine region_then fun K113 QK113 hK113 => ?_
      refine s_val hM66 (.inl rfl) rfl rfl (ev_loadm rfl rfl (KB8.out.on HB52.out).rng Try.underlying80 rfl (by rw [HJ.out]; exact info_judge)) (fun a115 hM114 => ?_)
      clear hM66
      refine s_val hM114 (.inl rfl) rfl rfl (ev_fldw (m := 3) rfl rfl (fun w => by simp [go_sem])) (fun a117 hM116 => ?_)
      clear hM114
      refine s_val hM116 (.inl rfl) rfl rfl (ev_load1 (v := .int .i64 (x.d)) rfl rfl ((KB18.out.on HB53.out).rng.at_ (m := 3) (by rw [HC.out]; rfl)) (isAgg_no Try.underlying3 rfl)) (fun a119 hM118 => ?_)
      clear hM116
      refine s_val hM118 (.inl rfl) rfl rfl (ev_move (.inl rfl) rfl) (fun a121 hM120 => ?_)
      clear hM118
      refine s_val hM120 (.inl rfl) rfl rfl (ev_move (.inl rfl) rfl) (fun a123 hM122 => ?_)
      clear hM120
      refine s_call hM122 (.inl rfl) rfl rfl (f := 69) (args := #[.agg JC, .int .i64 (x.d), .slice AH ((batchB x.b.a x.b.n x.b.l).length) cH, .int .i64 0]) (ev_call hM122 rfl rfl rfl (fun w => by simp [go_sem]) _) (by rw [HJ.out]; exact judge_is (A := A) (n := n) (c := c) x.d _ (HB.out.below HB51.out) (HY.out.below HB55.out) (by have := batchB_le HBM.out; omega) HD1.out HI) (fun e w124 hp => ?_)
      obtain ⟨rfl, hb125⟩ := hp
      refine ⟨_, rfl, fun a127 hM126 => ?_⟩
      clear hM122
      have HB128 := hide (below_then HB51.out hb125)
      have HB129 := hide (below_then HB52.out hb125)
      have HB130 := hide (below_then HB53.out hb125)
      have HB131 := hide (below_then HB55.out hb125)
      clear hb125 HB51 HB52 HB53 HB55
      refine s_val hM126 (.inl rfl) rfl rfl (ev_move (.inl rfl) rfl) (fun a133 hM132 => ?_)
      clear hM126
      refine s_skip hM132 rfl rfl rfl rfl rfl rfl (fun a135 hM134 => ?_)
      clear hM132
      refine s_skip hM134 rfl rfl rfl rfl rfl rfl (fun a137 hM136 => ?_)
      clear hM134
      refine s_skip hM136 rfl rfl rfl rfl rfl rfl (fun a139 hM138 => ?_)
      clear hM136
      refine s_skip hM138 rfl rfl rfl rfl rfl rfl (fun a141 hM140 => ?_)
      clear hM138
      refine s_skip hM140 rfl rfl rfl rfl rfl rfl (fun a143 hM142 => ?_)
      clear hM140
      refine s_skip hM142 rfl rfl rfl rfl rfl rfl (fun a145 hM144 => ?_)
      clear hM142
      refine s_skip hM144 rfl rfl rfl rfl rfl rfl (fun a147 hM146 => ?_)
      clear hM144
      refine s_val hM146 (.inl rfl) rfl rfl (ev_pick rfl rfl rfl) (fun a149 hM148 => ?_)
      clear hM146
      refine s_val hM148 (.inl rfl) rfl rfl (ev_move (.inr rfl) rfl) (fun a151 hM150 => ?_)
      clear hM148
      refine seg_nil (hK113 _ _ ?_)
      clear hK113 K113 QK113
      have hM152 := hM150.cut3 (t1 := 2) (t2 := 3) (t3 := 4) rfl rfl rfl
      clear hM150
      refine wp_ret ?_
      repeat (with_reducible first | refine th_r ?_ | refine inb_r ?_ | refine js_r ?_)
      refine ret_of (t := 4) rfl hM152 rfl ?_
      exact ⟨ret_bool HNO.out.symm, HB128.out⟩
  · skip
    have HR := hr.out
    rw [real_2 hk] at HR
    have HR := hide HR
    have HD1 := hide (may_d HM.out (by omega)).1
    have HK := hide hk
    clear hk
    refine region_then fun K153 QK153 hK153 => ?_
    refine s_val hM34 (.inl rfl) rfl rfl (ev_bin rfl rfl rfl g_int (b_eql (b := false) (by have := HK.out; simp [this]))) (fun a155 hM154 => ?_)
    clear hM34
    refine s_val hM154 (.inl rfl) rfl rfl (ev_move (.inr rfl) rfl) (fun a157 hM156 => ?_)
    clear hM154
    refine seg_nil (hK153 _ _ ?_)
    clear hK153 K153 QK153
    have hM158 := hM156.cut4 (t1 := 2) (t2 := 3) (t3 := 10) (t4 := 11) rfl rfl rfl rfl
    clear hM156
    refine wp_cond_false (hM158.ev (t := 11) rfl) ?_
    refine region_last fun K159 QK159 hK159 => ?_
    refine s_val hM158 (.inl rfl) rfl rfl (ev_bin rfl rfl rfl g_int (b_eql (b := false) (by have := HK.out; simp [this]))) (fun a161 hM160 => ?_)
    clear hM158
    refine s_val hM160 (.inl rfl) rfl rfl (ev_move (.inr rfl) rfl) (fun a163 hM162 => ?_)
    clear hM160
    refine seg_nil (hK159 _ _ ?_)
    clear hK159 K159 QK159
    have hM164 := hM162.cut4 (t1 := 2) (t2 := 3) (t3 := 10) (t4 := 11) rfl rfl rfl rfl
    clear hM162
    refine hK35 _ _ ?_
    refine wp_cond_false (hM164.ev (t := 11) rfl) ?_
    refine region_then fun K165 QK165 hK165 => ?_
    refine s_val hM164 (.inl rfl) rfl rfl (ev_bin rfl rfl rfl g_int (b_eql (b := false) (by have := HK.out; simp [this]))) (fun a167 hM166 => ?_)
    clear hM164
    refine s_val hM166 (.inl rfl) rfl rfl (ev_move (.inr rfl) rfl) (fun a169 hM168 => ?_)
    clear hM166
    refine seg_nil (hK165 _ _ ?_)
    clear hK165 K165 QK165
    have hM170 := hM168.cut5 (t1 := 2) (t2 := 3) (t3 := 10) (t4 := 11) (t5 := 35) rfl rfl rfl rfl rfl
    clear hM168
    refine wp_cond_false (hM170.ev (t := 35) rfl) ?_
    refine region_then fun K171 QK171 hK171 => ?_
    refine s_val hM170 (.inl rfl) rfl rfl (ev_bin rfl rfl rfl g_int (b_eql (b := false) (by have := HK.out; simp [this]))) (fun a173 hM172 => ?_)
    clear hM170
    refine s_val hM172 (.inl rfl) rfl rfl (ev_move (.inr rfl) rfl) (fun a175 hM174 => ?_)
    clear hM172
    refine seg_nil (hK171 _ _ ?_)
    clear hK171 K171 QK171
    have hM176 := hM174.cut6 (t1 := 2) (t2 := 3) (t3 := 10) (t4 := 11) (t5 := 35) (t6 := 57) rfl rfl rfl rfl rfl rfl
    clear hM174
    refine wp_cond_false (hM176.ev (t := 57) rfl) ?_
    refine region_then fun K177 QK177 hK177 => ?_
    refine s_val hM176 (.inl rfl) rfl rfl (ev_bin rfl rfl rfl g_int (b_eql (b := false) (by have := HK.out; simp [this]))) (fun a179 hM178 => ?_)
    clear hM176
    refine s_val hM178 (.inl rfl) rfl rfl (ev_move (.inr rfl) rfl) (fun a181 hM180 => ?_)
    clear hM178
    refine seg_nil (hK177 _ _ ?_)
    clear hK177 K177 QK177
    have hM182 := hM180.cut7 (t1 := 2) (t2 := 3) (t3 := 10) (t4 := 11) (t5 := 35) (t6 := 57) (t7 := 63) rfl rfl rfl rfl rfl rfl rfl
    clear hM180
    refine wp_cond_false (hM182.ev (t := 63) rfl) ?_
    refine region_then fun K183 QK183 hK183 => ?_
    refine s_val hM182 (.inl rfl) rfl rfl (ev_bin rfl rfl rfl g_int (b_eql (b := true) (decide_eq_true HK.out))) (fun a185 hM184 => ?_)
    clear hM182
    refine s_val hM184 (.inl rfl) rfl rfl (ev_move (.inr rfl) rfl) (fun a187 hM186 => ?_)
    clear hM184
    refine seg_nil (hK183 _ _ ?_)
    clear hK183 K183 QK183
    have hM188 := hM186.cut8 (t1 := 2) (t2 := 3) (t3 := 10) (t4 := 11) (t5 := 35) (t6 := 57) (t7 := 63) (t8 := 78) rfl rfl rfl rfl rfl rfl rfl rfl
    clear hM186
    refine wp_cond_true (hM188.ev (t := 78) rfl) ?_
    have HNK := hide (known_one (L := L) HD1.out)
    rw [HR.out] at HNK
    refine region_then fun K189 QK189 hK189 => ?_
    refine s_val hM188 (.inl rfl) rfl rfl (ev_loadm rfl rfl (KB8.out.on HB22.out).rng Try.underlying80 rfl (by rw [HJ.out]; exact info_judge)) (fun a191 hM190 => ?_)
    clear hM188
    refine s_val hM190 (.inl rfl) rfl rfl (ev_fldw (m := 3) rfl rfl (fun w => by simp [go_sem])) (fun a193 hM192 => ?_)
    clear hM190
    refine s_val hM192 (.inl rfl) rfl rfl (ev_load1 (v := .int .i64 (x.d)) rfl rfl ((KB18.out.on HB24.out).rng.at_ (m := 3) (by rw [HC.out]; rfl)) (isAgg_no Try.underlying3 rfl)) (fun a195 hM194 => ?_)
    clear hM192
    refine s_alloc (e := 3) hM194 (.inl rfl) rfl rfl (V := fun g => .slice (some ⟨g, 0, none⟩) 1 1) (ev_bsl hM194 rfl rfl (fun w => by kernel_rfl)) (fun g196 a202 w197 hM201 KB200_ hb198 hg199 => ?_)
    have KB200 := hide KB200_
    clear hM194 KB200_
    clear hg199
    have HB203 := hide (below_then HB21.out hb198)
    have HB204 := hide (below_then HB22.out hb198)
    have HB205 := hide (below_then HB24.out hb198)
    clear hb198 HB21 HB22 HB24
    have HB207 : Hid (Below w197.heap.size w197 w197) := Below.refl _ _
    have HN1 := hide (Sl.one_ KB200.out)
    refine s_call hM201 (.inl rfl) rfl rfl (f := 73) (args := #[.agg JC, .slice ((some ⟨g196, 0, none⟩)) 1 1]) (ev_call hM201 rfl rfl rfl (fun w => by simp [go_sem]) _) (by rw [HJ.out]; exact judge_known (A := A) (n := n) (c := c) (ds := [x.d]) _ (HB.out.below HB203.out) (HN1.out.below HB207.out) (by omega) HNK) (fun e w208 hp => ?_)
    obtain ⟨rfl, hb209⟩ := hp
    refine ⟨_, rfl, fun a211 hM210 => ?_⟩
    clear hM201
    have HB212 := hide (below_then HB203.out hb209)
    have HB213 := hide (below_then HB204.out hb209)
    have HB214 := hide (below_then HB205.out hb209)
    have HB215 := hide (below_then HB207.out hb209)
    clear hb209 HB203 HB204 HB205 HB207
    refine s_val hM210 (.inl rfl) rfl rfl (ev_move (.inr rfl) rfl) (fun a217 hM216 => ?_)
    clear hM210
    refine seg_nil (hK189 _ _ ?_)
    clear hK189 K189 QK189
    have hM218 := hM216.cut9 (t1 := 2) (t2 := 3) (t3 := 10) (t4 := 4) (t5 := 11) (t6 := 35) (t7 := 57) (t8 := 63) (t9 := 78) rfl rfl rfl rfl rfl rfl rfl rfl rfl
    clear hM216
    refine wp_ret ?_
    repeat (with_reducible first | refine th_r ?_ | refine inb_r ?_ | refine js_r ?_)
    refine ret_of (t := 4) rfl hM218 rfl ?_
    exact ⟨rfl, HB212.out⟩
  · skip
    have HR := hr.out
    rw [real_13 (.inr hk)] at HR
    have HR := hide HR
    have HBM := hide (may_b HM.out (by omega))
    have HD1 := hide (may_d HM.out (by omega)).1
    have HK := hide hk
    clear hk
    obtain ⟨BT, HBT⟩ : ∃ C : Array Value, Hid (C = btC x v) := ⟨_, rfl⟩
    have HRBT : Hid (Rng w15 g14 4 BT) := (((KB18.out.on HB24.out)).rng).sub 4 (sub_bt HC.out HBT.out)
    refine region_then fun K219 QK219 hK219 => ?_
    refine s_val hM34 (.inl rfl) rfl rfl (ev_bin rfl rfl rfl g_int (b_eql (b := false) (by have := HK.out; simp [this]))) (fun a221 hM220 => ?_)
    clear hM34
    refine s_val hM220 (.inl rfl) rfl rfl (ev_move (.inr rfl) rfl) (fun a223 hM222 => ?_)
    clear hM220
    refine seg_nil (hK219 _ _ ?_)
    clear hK219 K219 QK219
    have hM224 := hM222.cut4 (t1 := 2) (t2 := 3) (t3 := 10) (t4 := 11) rfl rfl rfl rfl
    clear hM222
    refine wp_cond_false (hM224.ev (t := 11) rfl) ?_
    refine region_last fun K225 QK225 hK225 => ?_
    refine s_val hM224 (.inl rfl) rfl rfl (ev_bin rfl rfl rfl g_int (b_eql (b := true) (decide_eq_true HK.out))) (fun a227 hM226 => ?_)
    clear hM224
    refine s_val hM226 (.inl rfl) rfl rfl (ev_move (.inr rfl) rfl) (fun a229 hM228 => ?_)
    clear hM226
    refine seg_nil (hK225 _ _ ?_)
    clear hK225 K225 QK225
    have hM230 := hM228.cut4 (t1 := 2) (t2 := 3) (t3 := 10) (t4 := 11) rfl rfl rfl rfl
    clear hM228
    refine hK35 _ _ ?_
    refine wp_cond_true (hM230.ev (t := 11) rfl) ?_
    refine region_then fun K231 QK231 hK231 => ?_
    refine s_val hM230 (.inl rfl) rfl rfl (ev_fldw (m := 4) rfl rfl (fun w => by simp [go_sem])) (fun a233 hM232 => ?_)
    clear hM230
    refine s_val hM232 (.inl rfl) rfl rfl (ev_loadm rfl rfl (HRBT.out.below HB24.out) Try.underlying36 rfl (by rw [HBT.out]; exact info_bat)) (fun a235 hM234 => ?_)
    clear hM232
    refine s_call hM234 (.inl rfl) rfl rfl (f := 68) (args := #[.agg BT]) (ev_call hM234 rfl rfl rfl (fun w => by simp [go_sem]) _) (by rw [HBT.out]; exact batch_Bytes_yes x.b.a x.b.n _ ((HS.out.below HB21.out)).tx HZ.out.txz HBM.out) (fun e w236 hp => ?_)
    obtain ⟨v', rfl, ho, hb237⟩ := hp
    obtain ⟨AH, cH, rfl⟩ := own_slice ho
    have HY := hide (Sl.of_own ho)
    clear ho
    refine ⟨_, rfl, fun a239 hM238 => ?_⟩
    clear hM234
    have HB240 := hide (below_then HB21.out hb237)
    have HB241 := hide (below_then HB22.out hb237)
    have HB242 := hide (below_then HB24.out hb237)
    clear hb237 HB21 HB22 HB24
    have HB244 : Hid (Below w236.heap.size w236 w236) := Below.refl _ _
    refine s_val hM238 (.inl rfl) rfl rfl (ev_move (.inl rfl) rfl) (fun a246 hM245 => ?_)
    clear hM238
    refine s_val hM245 (.inl rfl) rfl rfl (ev_ext rfl rfl rfl) (fun a248 hM247 => ?_)
    clear hM245
    refine s_val hM247 (.inl rfl) rfl rfl (ev_ext rfl rfl rfl) (fun a250 hM249 => ?_)
    clear hM247
    refine s_val hM249 (.inl rfl) rfl rfl (ev_move (.inr rfl) rfl) (fun a252 hM251 => ?_)
    clear hM249
    refine s_val hM251 (.inl rfl) rfl rfl (ev_move (.inr rfl) rfl) (fun a254 hM253 => ?_)
    clear hM251
    refine seg_nil (hK231 _ _ ?_)
    clear hK231 K231 QK231
    have hM255 := hM253.cut4 (t1 := 2) (t2 := 3) (t3 := 5) (t4 := 6) rfl rfl rfl rfl
    clear hM253
    obtain ⟨q, HI⟩ : ∃ q, Hid (isB L x.d (batchB x.b.a x.b.n x.b.l) = q) := ⟨_, rfl⟩
    rw [HI.out] at HR
    cases q
    case true =>
      have HBY := HR
      rw [Bool.true_and] at HBY
      refine region_then fun K256 QK256 hK256 => ?_
      refine s_val hM255 (.inl rfl) rfl rfl (ev_loadm rfl rfl (KB8.out.on HB241.out).rng Try.underlying80 rfl (by rw [HJ.out]; exact info_judge)) (fun a258 hM257 => ?_)
      clear hM255
      refine s_val hM257 (.inl rfl) rfl rfl (ev_fldw (m := 3) rfl rfl (fun w => by simp [go_sem])) (fun a260 hM259 => ?_)
      clear hM257
      refine s_val hM259 (.inl rfl) rfl rfl (ev_load1 (v := .int .i64 (x.d)) rfl rfl ((KB18.out.on HB242.out).rng.at_ (m := 3) (by rw [HC.out]; rfl)) (isAgg_no Try.underlying3 rfl)) (fun a262 hM261 => ?_)
      clear hM259
      refine s_val hM261 (.inl rfl) rfl rfl (ev_move (.inl rfl) rfl) (fun a264 hM263 => ?_)
      clear hM261
      refine s_val hM263 (.inl rfl) rfl rfl (ev_move (.inl rfl) rfl) (fun a266 hM265 => ?_)
      clear hM263
      refine s_call hM265 (.inl rfl) rfl rfl (f := 69) (args := #[.agg JC, .int .i64 (x.d), .slice AH ((batchB x.b.a x.b.n x.b.l).length) cH, .int .i64 0]) (ev_call hM265 rfl rfl rfl (fun w => by simp [go_sem]) _) (by rw [HJ.out]; exact judge_is (A := A) (n := n) (c := c) x.d _ (HB.out.below HB240.out) (HY.out.below HB244.out) (by have := batchB_le HBM.out; omega) HD1.out HI) (fun e w267 hp => ?_)
      obtain ⟨rfl, hb268⟩ := hp
      refine ⟨_, rfl, fun a270 hM269 => ?_⟩
      clear hM265
      have HB271 := hide (below_then HB240.out hb268)
      have HB272 := hide (below_then HB241.out hb268)
      have HB273 := hide (below_then HB242.out hb268)
      have HB274 := hide (below_then HB244.out hb268)
      clear hb268 HB240 HB241 HB242 HB244
      refine s_val hM269 (.inl rfl) rfl rfl (ev_move (.inl rfl) rfl) (fun a276 hM275 => ?_)
      clear hM269
      refine s_val hM275 (.inr ⟨_, _, _, rfl, rfl, rfl⟩) rfl rfl (ev_loadm rfl rfl (KB8.out.on HB272.out).rng Try.underlying80 rfl (by rw [HJ.out]; exact info_judge)) (fun a278 hM277 => ?_)
      clear hM275
      refine s_val hM277 (.inr ⟨_, _, _, rfl, rfl, rfl⟩) rfl rfl (ev_fldw (m := 4) rfl rfl (fun w => by simp [go_sem])) (fun a280 hM279 => ?_)
      clear hM277
      refine s_val hM279 (.inr ⟨_, _, _, rfl, rfl, rfl⟩) rfl rfl (ev_fldw (m := 4) rfl rfl (fun w => by simp [go_sem])) (fun a282 hM281 => ?_)
      clear hM279
      refine s_val hM281 (.inr ⟨_, _, _, rfl, rfl, rfl⟩) rfl rfl (ev_load1 (v := .int .i64 (x.b.a)) rfl rfl ((HRBT.out.below HB273.out).at_ (m := 0) (by rw [HBT.out]; rfl)) (isAgg_no Try.underlying3 rfl)) (fun a284 hM283 => ?_)
      clear hM281
      refine s_val hM283 (.inr ⟨_, _, _, rfl, rfl, rfl⟩) rfl rfl (ev_fldw (m := 3) rfl rfl (fun w => by simp [go_sem])) (fun a286 hM285 => ?_)
      clear hM283
      refine s_val hM285 (.inr ⟨_, _, _, rfl, rfl, rfl⟩) rfl rfl (ev_load1 (v := .int .i64 (x.d)) rfl rfl ((KB18.out.on HB273.out).rng.at_ (m := 3) (by rw [HC.out]; rfl)) (isAgg_no Try.underlying3 rfl)) (fun a288 hM287 => ?_)
      clear hM285
      refine s_call hM287 (.inr ⟨_, _, _, rfl, rfl, rfl⟩) rfl rfl (f := 70) (args := #[.agg JC, .int .i64 (x.b.a), .int .i64 (x.d)]) (ev_call hM287 rfl rfl rfl (fun w => by simp [go_sem]) _) (by rw [HJ.out]; exact judge_by x.b.a x.d _ (HB.out.below HB271.out) (HL.out.below HB271.out) hn HBY) (fun e w289 hp => ?_)
      obtain ⟨rfl, hb290⟩ := hp
      refine ⟨_, rfl, fun a292 hM291 => ?_⟩
      clear hM287
      have HB293 := hide (below_then HB271.out hb290)
      have HB294 := hide (below_then HB272.out hb290)
      have HB295 := hide (below_then HB273.out hb290)
      have HB296 := hide (below_then HB274.out hb290)
      clear hb290 HB271 HB272 HB273 HB274
      refine s_val hM291 (.inl rfl) rfl rfl (ev_pick rfl rfl rfl) (fun a298 hM297 => ?_)
      clear hM291
      refine s_val hM297 (.inl rfl) rfl rfl (ev_move (.inr rfl) rfl) (fun a300 hM299 => ?_)
      clear hM297
      refine seg_nil (hK256 _ _ ?_)
      clear hK256 K256 QK256
      have hM301 := hM299.cut3 (t1 := 2) (t2 := 3) (t3 := 4) rfl rfl rfl
      clear hM299
      refine wp_ret ?_
      repeat (with_reducible first | refine th_r ?_ | refine inb_r ?_ | refine js_r ?_)
      refine ret_of (t := 4) rfl hM301 rfl ?_
      exact ⟨rfl, HB293.out⟩
    case false =>
      have HNO := HR
      rw [Bool.false_and] at HNO
      have HNO := hide HNO.symm
      refine region_then fun K302 QK302 hK302 => ?_
      refine s_val hM255 (.inl rfl) rfl rfl (ev_loadm rfl rfl (KB8.out.on HB241.out).rng Try.underlying80 rfl (by rw [HJ.out]; exact info_judge)) (fun a304 hM303 => ?_)
      clear hM255
      refine s_val hM303 (.inl rfl) rfl rfl (ev_fldw (m := 3) rfl rfl (fun w => by simp [go_sem])) (fun a306 hM305 => ?_)
      clear hM303
      refine s_val hM305 (.inl rfl) rfl rfl (ev_load1 (v := .int .i64 (x.d)) rfl rfl ((KB18.out.on HB242.out).rng.at_ (m := 3) (by rw [HC.out]; rfl)) (isAgg_no Try.underlying3 rfl)) (fun a308 hM307 => ?_)
      clear hM305
      refine s_val hM307 (.inl rfl) rfl rfl (ev_move (.inl rfl) rfl) (fun a310 hM309 => ?_)
      clear hM307
      refine s_val hM309 (.inl rfl) rfl rfl (ev_move (.inl rfl) rfl) (fun a312 hM311 => ?_)
      clear hM309
      refine s_call hM311 (.inl rfl) rfl rfl (f := 69) (args := #[.agg JC, .int .i64 (x.d), .slice AH ((batchB x.b.a x.b.n x.b.l).length) cH, .int .i64 0]) (ev_call hM311 rfl rfl rfl (fun w => by simp [go_sem]) _) (by rw [HJ.out]; exact judge_is (A := A) (n := n) (c := c) x.d _ (HB.out.below HB240.out) (HY.out.below HB244.out) (by have := batchB_le HBM.out; omega) HD1.out HI) (fun e w313 hp => ?_)
      obtain ⟨rfl, hb314⟩ := hp
      refine ⟨_, rfl, fun a316 hM315 => ?_⟩
      clear hM311
      have HB317 := hide (below_then HB240.out hb314)
      have HB318 := hide (below_then HB241.out hb314)
      have HB319 := hide (below_then HB242.out hb314)
      have HB320 := hide (below_then HB244.out hb314)
      clear hb314 HB240 HB241 HB242 HB244
      refine s_val hM315 (.inl rfl) rfl rfl (ev_move (.inl rfl) rfl) (fun a322 hM321 => ?_)
      clear hM315
      refine s_skip hM321 rfl rfl rfl rfl rfl rfl (fun a324 hM323 => ?_)
      clear hM321
      refine s_skip hM323 rfl rfl rfl rfl rfl rfl (fun a326 hM325 => ?_)
      clear hM323
      refine s_skip hM325 rfl rfl rfl rfl rfl rfl (fun a328 hM327 => ?_)
      clear hM325
      refine s_skip hM327 rfl rfl rfl rfl rfl rfl (fun a330 hM329 => ?_)
      clear hM327
      refine s_skip hM329 rfl rfl rfl rfl rfl rfl (fun a332 hM331 => ?_)
      clear hM329
      refine s_skip hM331 rfl rfl rfl rfl rfl rfl (fun a334 hM333 => ?_)
      clear hM331
      refine s_skip hM333 rfl rfl rfl rfl rfl rfl (fun a336 hM335 => ?_)
      clear hM333
      refine s_val hM335 (.inl rfl) rfl rfl (ev_pick rfl rfl rfl) (fun a338 hM337 => ?_)
      clear hM335
      refine s_val hM337 (.inl rfl) rfl rfl (ev_move (.inr rfl) rfl) (fun a340 hM339 => ?_)
      clear hM337
      refine seg_nil (hK302 _ _ ?_)
      clear hK302 K302 QK302
      have hM341 := hM339.cut3 (t1 := 2) (t2 := 3) (t3 := 4) rfl rfl rfl
      clear hM339
      refine wp_ret ?_
      repeat (with_reducible first | refine th_r ?_ | refine inb_r ?_ | refine js_r ?_)
      refine ret_of (t := 4) rfl hM341 rfl ?_
      exact ⟨ret_bool HNO.out.symm, HB317.out⟩
  · skip
    have HR := hr.out
    rw [real_4 hk] at HR
    have HR := hide HR
    have HD1 := hide (may_d HM.out (by omega)).1
    have HF := hide (may_h HM.out hk)
    have HK := hide hk
    clear hk
    obtain ⟨HD, HHD⟩ : ∃ C : Array Value, Hid (C = hdC x v) := ⟨_, rfl⟩
    have HRHD : Hid (Rng w15 g14 7 HD) := (((KB18.out.on HB24.out)).rng).sub 7 (sub_hd HC.out HHD.out)
    refine region_then fun K342 QK342 hK342 => ?_
    refine s_val hM34 (.inl rfl) rfl rfl (ev_bin rfl rfl rfl g_int (b_eql (b := false) (by have := HK.out; simp [this]))) (fun a344 hM343 => ?_)
    clear hM34
    refine s_val hM343 (.inl rfl) rfl rfl (ev_move (.inr rfl) rfl) (fun a346 hM345 => ?_)
    clear hM343
    refine seg_nil (hK342 _ _ ?_)
    clear hK342 K342 QK342
    have hM347 := hM345.cut4 (t1 := 2) (t2 := 3) (t3 := 10) (t4 := 11) rfl rfl rfl rfl
    clear hM345
    refine wp_cond_false (hM347.ev (t := 11) rfl) ?_
    refine region_last fun K348 QK348 hK348 => ?_
    refine s_val hM347 (.inl rfl) rfl rfl (ev_bin rfl rfl rfl g_int (b_eql (b := false) (by have := HK.out; simp [this]))) (fun a350 hM349 => ?_)
    clear hM347
    refine s_val hM349 (.inl rfl) rfl rfl (ev_move (.inr rfl) rfl) (fun a352 hM351 => ?_)
    clear hM349
    refine seg_nil (hK348 _ _ ?_)
    clear hK348 K348 QK348
    have hM353 := hM351.cut4 (t1 := 2) (t2 := 3) (t3 := 10) (t4 := 11) rfl rfl rfl rfl
    clear hM351
    refine hK35 _ _ ?_
    refine wp_cond_false (hM353.ev (t := 11) rfl) ?_
    refine region_then fun K354 QK354 hK354 => ?_
    refine s_val hM353 (.inl rfl) rfl rfl (ev_bin rfl rfl rfl g_int (b_eql (b := true) (decide_eq_true HK.out))) (fun a356 hM355 => ?_)
    clear hM353
    refine s_val hM355 (.inl rfl) rfl rfl (ev_move (.inr rfl) rfl) (fun a358 hM357 => ?_)
    clear hM355
    refine seg_nil (hK354 _ _ ?_)
    clear hK354 K354 QK354
    have hM359 := hM357.cut5 (t1 := 2) (t2 := 3) (t3 := 10) (t4 := 11) (t5 := 35) rfl rfl rfl rfl rfl
    clear hM357
    refine wp_cond_true (hM359.ev (t := 35) rfl) ?_
    refine region_then fun K360 QK360 hK360 => ?_
    refine s_val hM359 (.inl rfl) rfl rfl (ev_fldw (m := 7) rfl rfl (fun w => by simp [go_sem])) (fun a362 hM361 => ?_)
    clear hM359
    refine s_val hM361 (.inl rfl) rfl rfl (ev_loadm rfl rfl (HRHD.out.below HB24.out) Try.underlying38 rfl (by rw [HHD.out]; exact info_hdr)) (fun a364 hM363 => ?_)
    clear hM361
    refine s_call hM363 (.inl rfl) rfl rfl (f := 71) (args := #[.agg HD]) (ev_call hM363 rfl rfl rfl (fun w => by simp [go_sem]) _) (by rw [HHD.out]; exact header_Bytes_yes x.h _ ((HS.out.below HB21.out)).hb ((HS.out.below HB21.out)).hp HF) (fun e w365 hp => ?_)
    obtain ⟨v', rfl, ho, hb366⟩ := hp
    obtain ⟨AH, cH, rfl⟩ := own_slice ho
    have HY := hide (Sl.of_own ho)
    clear ho
    refine ⟨_, rfl, fun a368 hM367 => ?_⟩
    clear hM363
    have HB369 := hide (below_then HB21.out hb366)
    have HB370 := hide (below_then HB22.out hb366)
    have HB371 := hide (below_then HB24.out hb366)
    clear hb366 HB21 HB22 HB24
    have HB373 : Hid (Below w365.heap.size w365 w365) := Below.refl _ _
    refine s_val hM367 (.inl rfl) rfl rfl (ev_move (.inl rfl) rfl) (fun a375 hM374 => ?_)
    clear hM367
    refine s_val hM374 (.inl rfl) rfl rfl (ev_ext rfl rfl rfl) (fun a377 hM376 => ?_)
    clear hM374
    refine s_val hM376 (.inl rfl) rfl rfl (ev_ext rfl rfl rfl) (fun a379 hM378 => ?_)
    clear hM376
    refine s_val hM378 (.inl rfl) rfl rfl (ev_move (.inr rfl) rfl) (fun a381 hM380 => ?_)
    clear hM378
    refine s_val hM380 (.inl rfl) rfl rfl (ev_move (.inr rfl) rfl) (fun a383 hM382 => ?_)
    clear hM380
    refine seg_nil (hK360 _ _ ?_)
    clear hK360 K360 QK360
    have hM384 := hM382.cut4 (t1 := 2) (t2 := 3) (t3 := 7) (t4 := 8) rfl rfl rfl rfl
    clear hM382
    obtain ⟨q, HI⟩ : ∃ q, Hid (isB L x.d (headerB x.h) = q) := ⟨_, rfl⟩
    rw [HI.out] at HR
    cases q
    case true =>
      have HBY := HR
      rw [Bool.true_and] at HBY
      refine region_then fun K385 QK385 hK385 => ?_
      refine s_val hM384 (.inl rfl) rfl rfl (ev_loadm rfl rfl (KB8.out.on HB370.out).rng Try.underlying80 rfl (by rw [HJ.out]; exact info_judge)) (fun a387 hM386 => ?_)
      clear hM384
      refine s_val hM386 (.inl rfl) rfl rfl (ev_fldw (m := 3) rfl rfl (fun w => by simp [go_sem])) (fun a389 hM388 => ?_)
      clear hM386
      refine s_val hM388 (.inl rfl) rfl rfl (ev_load1 (v := .int .i64 (x.d)) rfl rfl ((KB18.out.on HB371.out).rng.at_ (m := 3) (by rw [HC.out]; rfl)) (isAgg_no Try.underlying3 rfl)) (fun a391 hM390 => ?_)
      clear hM388
      refine s_val hM390 (.inl rfl) rfl rfl (ev_move (.inl rfl) rfl) (fun a393 hM392 => ?_)
      clear hM390
      refine s_val hM392 (.inl rfl) rfl rfl (ev_move (.inl rfl) rfl) (fun a395 hM394 => ?_)
      clear hM392
      refine s_call hM394 (.inl rfl) rfl rfl (f := 69) (args := #[.agg JC, .int .i64 (x.d), .slice AH ((headerB x.h).length) cH, .int .i64 0]) (ev_call hM394 rfl rfl rfl (fun w => by simp [go_sem]) _) (by rw [HJ.out]; exact judge_is (A := A) (n := n) (c := c) x.d _ (HB.out.below HB369.out) (HY.out.below HB373.out) (by have := headerB_le HF.out; omega) HD1.out HI) (fun e w396 hp => ?_)
      obtain ⟨rfl, hb397⟩ := hp
      refine ⟨_, rfl, fun a399 hM398 => ?_⟩
      clear hM394
      have HB400 := hide (below_then HB369.out hb397)
      have HB401 := hide (below_then HB370.out hb397)
      have HB402 := hide (below_then HB371.out hb397)
      have HB403 := hide (below_then HB373.out hb397)
      clear hb397 HB369 HB370 HB371 HB373
      refine s_val hM398 (.inl rfl) rfl rfl (ev_move (.inl rfl) rfl) (fun a405 hM404 => ?_)
      clear hM398
      refine s_val hM404 (.inr ⟨_, _, _, rfl, rfl, rfl⟩) rfl rfl (ev_loadm rfl rfl (KB8.out.on HB401.out).rng Try.underlying80 rfl (by rw [HJ.out]; exact info_judge)) (fun a407 hM406 => ?_)
      clear hM404
      refine s_val hM406 (.inr ⟨_, _, _, rfl, rfl, rfl⟩) rfl rfl (ev_fldw (m := 1) rfl rfl (fun w => by simp [go_sem])) (fun a409 hM408 => ?_)
      clear hM406
      refine s_val hM408 (.inr ⟨_, _, _, rfl, rfl, rfl⟩) rfl rfl (ev_load1 (v := .int .i64 (x.f)) rfl rfl ((KB18.out.on HB402.out).rng.at_ (m := 1) (by rw [HC.out]; rfl)) (isAgg_no Try.underlying3 rfl)) (fun a411 hM410 => ?_)
      clear hM408
      refine s_val hM410 (.inr ⟨_, _, _, rfl, rfl, rfl⟩) rfl rfl (ev_fldw (m := 3) rfl rfl (fun w => by simp [go_sem])) (fun a413 hM412 => ?_)
      clear hM410
      refine s_val hM412 (.inr ⟨_, _, _, rfl, rfl, rfl⟩) rfl rfl (ev_load1 (v := .int .i64 (x.d)) rfl rfl ((KB18.out.on HB402.out).rng.at_ (m := 3) (by rw [HC.out]; rfl)) (isAgg_no Try.underlying3 rfl)) (fun a415 hM414 => ?_)
      clear hM412
      refine s_call hM414 (.inr ⟨_, _, _, rfl, rfl, rfl⟩) rfl rfl (f := 70) (args := #[.agg JC, .int .i64 (x.f), .int .i64 (x.d)]) (ev_call hM414 rfl rfl rfl (fun w => by simp [go_sem]) _) (by rw [HJ.out]; exact judge_by x.f x.d _ (HB.out.below HB400.out) (HL.out.below HB400.out) hn HBY) (fun e w416 hp => ?_)
      obtain ⟨rfl, hb417⟩ := hp
      refine ⟨_, rfl, fun a419 hM418 => ?_⟩
      clear hM414
      have HB420 := hide (below_then HB400.out hb417)
      have HB421 := hide (below_then HB401.out hb417)
      have HB422 := hide (below_then HB402.out hb417)
      have HB423 := hide (below_then HB403.out hb417)
      clear hb417 HB400 HB401 HB402 HB403
      refine s_val hM418 (.inl rfl) rfl rfl (ev_pick rfl rfl rfl) (fun a425 hM424 => ?_)
      clear hM418
      refine s_val hM424 (.inl rfl) rfl rfl (ev_move (.inr rfl) rfl) (fun a427 hM426 => ?_)
      clear hM424
      refine seg_nil (hK385 _ _ ?_)
      clear hK385 K385 QK385
      have hM428 := hM426.cut3 (t1 := 2) (t2 := 3) (t3 := 4) rfl rfl rfl
      clear hM426
      refine wp_ret ?_
      repeat (with_reducible first | refine th_r ?_ | refine inb_r ?_ | refine js_r ?_)
      refine ret_of (t := 4) rfl hM428 rfl ?_
      exact ⟨rfl, HB420.out⟩
    case false =>
      have HNO := HR
      rw [Bool.false_and] at HNO
      have HNO := hide HNO.symm
      refine region_then fun K429 QK429 hK429 => ?_
      refine s_val hM384 (.inl rfl) rfl rfl (ev_loadm rfl rfl (KB8.out.on HB370.out).rng Try.underlying80 rfl (by rw [HJ.out]; exact info_judge)) (fun a431 hM430 => ?_)
      clear hM384
      refine s_val hM430 (.inl rfl) rfl rfl (ev_fldw (m := 3) rfl rfl (fun w => by simp [go_sem])) (fun a433 hM432 => ?_)
      clear hM430
      refine s_val hM432 (.inl rfl) rfl rfl (ev_load1 (v := .int .i64 (x.d)) rfl rfl ((KB18.out.on HB371.out).rng.at_ (m := 3) (by rw [HC.out]; rfl)) (isAgg_no Try.underlying3 rfl)) (fun a435 hM434 => ?_)
      clear hM432
      refine s_val hM434 (.inl rfl) rfl rfl (ev_move (.inl rfl) rfl) (fun a437 hM436 => ?_)
      clear hM434
      refine s_val hM436 (.inl rfl) rfl rfl (ev_move (.inl rfl) rfl) (fun a439 hM438 => ?_)
      clear hM436
      refine s_call hM438 (.inl rfl) rfl rfl (f := 69) (args := #[.agg JC, .int .i64 (x.d), .slice AH ((headerB x.h).length) cH, .int .i64 0]) (ev_call hM438 rfl rfl rfl (fun w => by simp [go_sem]) _) (by rw [HJ.out]; exact judge_is (A := A) (n := n) (c := c) x.d _ (HB.out.below HB369.out) (HY.out.below HB373.out) (by have := headerB_le HF.out; omega) HD1.out HI) (fun e w440 hp => ?_)
      obtain ⟨rfl, hb441⟩ := hp
      refine ⟨_, rfl, fun a443 hM442 => ?_⟩
      clear hM438
      have HB444 := hide (below_then HB369.out hb441)
      have HB445 := hide (below_then HB370.out hb441)
      have HB446 := hide (below_then HB371.out hb441)
      have HB447 := hide (below_then HB373.out hb441)
      clear hb441 HB369 HB370 HB371 HB373
      refine s_val hM442 (.inl rfl) rfl rfl (ev_move (.inl rfl) rfl) (fun a449 hM448 => ?_)
      clear hM442
      refine s_skip hM448 rfl rfl rfl rfl rfl rfl (fun a451 hM450 => ?_)
      clear hM448
      refine s_skip hM450 rfl rfl rfl rfl rfl rfl (fun a453 hM452 => ?_)
      clear hM450
      refine s_skip hM452 rfl rfl rfl rfl rfl rfl (fun a455 hM454 => ?_)
      clear hM452
      refine s_skip hM454 rfl rfl rfl rfl rfl rfl (fun a457 hM456 => ?_)
      clear hM454
      refine s_skip hM456 rfl rfl rfl rfl rfl rfl (fun a459 hM458 => ?_)
      clear hM456
      refine s_skip hM458 rfl rfl rfl rfl rfl rfl (fun a461 hM460 => ?_)
      clear hM458
      refine s_val hM460 (.inl rfl) rfl rfl (ev_pick rfl rfl rfl) (fun a463 hM462 => ?_)
      clear hM460
      refine s_val hM462 (.inl rfl) rfl rfl (ev_move (.inr rfl) rfl) (fun a465 hM464 => ?_)
      clear hM462
      refine seg_nil (hK429 _ _ ?_)
      clear hK429 K429 QK429
      have hM466 := hM464.cut3 (t1 := 2) (t2 := 3) (t3 := 4) rfl rfl rfl
      clear hM464
      refine wp_ret ?_
      repeat (with_reducible first | refine th_r ?_ | refine inb_r ?_ | refine js_r ?_)
      refine ret_of (t := 4) rfl hM466 rfl ?_
      exact ⟨ret_bool HNO.out.symm, HB444.out⟩
  · skip
    have HR := hr.out
    rw [real_5 hk] at HR
    have HR := hide HR
    have HD1 := hide (may_d HM.out (by omega)).1
    have HK := hide hk
    clear hk
    refine region_then fun K467 QK467 hK467 => ?_
    refine s_val hM34 (.inl rfl) rfl rfl (ev_bin rfl rfl rfl g_int (b_eql (b := false) (by have := HK.out; simp [this]))) (fun a469 hM468 => ?_)
    clear hM34
    refine s_val hM468 (.inl rfl) rfl rfl (ev_move (.inr rfl) rfl) (fun a471 hM470 => ?_)
    clear hM468
    refine seg_nil (hK467 _ _ ?_)
    clear hK467 K467 QK467
    have hM472 := hM470.cut4 (t1 := 2) (t2 := 3) (t3 := 10) (t4 := 11) rfl rfl rfl rfl
    clear hM470
    refine wp_cond_false (hM472.ev (t := 11) rfl) ?_
    refine region_last fun K473 QK473 hK473 => ?_
    refine s_val hM472 (.inl rfl) rfl rfl (ev_bin rfl rfl rfl g_int (b_eql (b := false) (by have := HK.out; simp [this]))) (fun a475 hM474 => ?_)
    clear hM472
    refine s_val hM474 (.inl rfl) rfl rfl (ev_move (.inr rfl) rfl) (fun a477 hM476 => ?_)
    clear hM474
    refine seg_nil (hK473 _ _ ?_)
    clear hK473 K473 QK473
    have hM478 := hM476.cut4 (t1 := 2) (t2 := 3) (t3 := 10) (t4 := 11) rfl rfl rfl rfl
    clear hM476
    refine hK35 _ _ ?_
    refine wp_cond_false (hM478.ev (t := 11) rfl) ?_
    refine region_then fun K479 QK479 hK479 => ?_
    refine s_val hM478 (.inl rfl) rfl rfl (ev_bin rfl rfl rfl g_int (b_eql (b := false) (by have := HK.out; simp [this]))) (fun a481 hM480 => ?_)
    clear hM478
    refine s_val hM480 (.inl rfl) rfl rfl (ev_move (.inr rfl) rfl) (fun a483 hM482 => ?_)
    clear hM480
    refine seg_nil (hK479 _ _ ?_)
    clear hK479 K479 QK479
    have hM484 := hM482.cut5 (t1 := 2) (t2 := 3) (t3 := 10) (t4 := 11) (t5 := 35) rfl rfl rfl rfl rfl
    clear hM482
    refine wp_cond_false (hM484.ev (t := 35) rfl) ?_
    refine region_then fun K485 QK485 hK485 => ?_
    refine s_val hM484 (.inl rfl) rfl rfl (ev_bin rfl rfl rfl g_int (b_eql (b := false) (by have := HK.out; simp [this]))) (fun a487 hM486 => ?_)
    clear hM484
    refine s_val hM486 (.inl rfl) rfl rfl (ev_move (.inr rfl) rfl) (fun a489 hM488 => ?_)
    clear hM486
    refine seg_nil (hK485 _ _ ?_)
    clear hK485 K485 QK485
    have hM490 := hM488.cut6 (t1 := 2) (t2 := 3) (t3 := 10) (t4 := 11) (t5 := 35) (t6 := 57) rfl rfl rfl rfl rfl rfl
    clear hM488
    refine wp_cond_false (hM490.ev (t := 57) rfl) ?_
    refine region_then fun K491 QK491 hK491 => ?_
    refine s_val hM490 (.inl rfl) rfl rfl (ev_bin rfl rfl rfl g_int (b_eql (b := true) (decide_eq_true HK.out))) (fun a493 hM492 => ?_)
    clear hM490
    refine s_val hM492 (.inl rfl) rfl rfl (ev_move (.inr rfl) rfl) (fun a495 hM494 => ?_)
    clear hM492
    refine seg_nil (hK491 _ _ ?_)
    clear hK491 K491 QK491
    have hM496 := hM494.cut7 (t1 := 2) (t2 := 3) (t3 := 10) (t4 := 11) (t5 := 35) (t6 := 57) (t7 := 63) rfl rfl rfl rfl rfl rfl rfl
    clear hM494
    refine wp_cond_true (hM496.ev (t := 63) rfl) ?_
    have HNK := hide (known_one (L := L) HD1.out)
    obtain ⟨q, HQ⟩ : ∃ q, Hid (decide (x.d ≤ (L.length : Int)) = q) := ⟨_, rfl⟩
    rw [HQ.out] at HR HNK
    cases q
    case true =>
      have HBY := HR
      rw [Bool.true_and] at HBY
      refine region_then fun K497 QK497 hK497 => ?_
      refine s_val hM496 (.inl rfl) rfl rfl (ev_loadm rfl rfl (KB8.out.on HB22.out).rng Try.underlying80 rfl (by rw [HJ.out]; exact info_judge)) (fun a499 hM498 => ?_)
      clear hM496
      refine s_val hM498 (.inl rfl) rfl rfl (ev_fldw (m := 3) rfl rfl (fun w => by simp [go_sem])) (fun a501 hM500 => ?_)
      clear hM498
      refine s_val hM500 (.inl rfl) rfl rfl (ev_load1 (v := .int .i64 (x.d)) rfl rfl ((KB18.out.on HB24.out).rng.at_ (m := 3) (by rw [HC.out]; rfl)) (isAgg_no Try.underlying3 rfl)) (fun a503 hM502 => ?_)
      clear hM500
      refine s_alloc (e := 3) hM502 (.inl rfl) rfl rfl (V := fun g => .slice (some ⟨g, 0, none⟩) 1 1) (ev_bsl hM502 rfl rfl (fun w => by kernel_rfl)) (fun g504 a510 w505 hM509 KB508_ hb506 hg507 => ?_)
      have KB508 := hide KB508_
      clear hM502 KB508_
      clear hg507
      have HB511 := hide (below_then HB21.out hb506)
      have HB512 := hide (below_then HB22.out hb506)
      have HB513 := hide (below_then HB24.out hb506)
      clear hb506 HB21 HB22 HB24
      have HB515 : Hid (Below w505.heap.size w505 w505) := Below.refl _ _
      have HN1 := hide (Sl.one_ KB508.out)
      refine s_call hM509 (.inl rfl) rfl rfl (f := 73) (args := #[.agg JC, .slice ((some ⟨g504, 0, none⟩)) 1 1]) (ev_call hM509 rfl rfl rfl (fun w => by simp [go_sem]) _) (by rw [HJ.out]; exact judge_known (A := A) (n := n) (c := c) (ds := [x.d]) _ (HB.out.below HB511.out) (HN1.out.below HB515.out) (by omega) HNK) (fun e w516 hp => ?_)
      obtain ⟨rfl, hb517⟩ := hp
      refine ⟨_, rfl, fun a519 hM518 => ?_⟩
      clear hM509
      have HB520 := hide (below_then HB511.out hb517)
      have HB521 := hide (below_then HB512.out hb517)
      have HB522 := hide (below_then HB513.out hb517)
      have HB523 := hide (below_then HB515.out hb517)
      clear hb517 HB511 HB512 HB513 HB515
      refine s_val hM518 (.inl rfl) rfl rfl (ev_move (.inl rfl) rfl) (fun a525 hM524 => ?_)
      clear hM518
      refine s_val hM524 (.inr ⟨_, _, _, rfl, rfl, rfl⟩) rfl rfl (ev_loadm rfl rfl (KB8.out.on HB521.out).rng Try.underlying80 rfl (by rw [HJ.out]; exact info_judge)) (fun a527 hM526 => ?_)
      clear hM524
      refine s_val hM526 (.inr ⟨_, _, _, rfl, rfl, rfl⟩) rfl rfl (ev_fldw (m := 1) rfl rfl (fun w => by simp [go_sem])) (fun a529 hM528 => ?_)
      clear hM526
      refine s_val hM528 (.inr ⟨_, _, _, rfl, rfl, rfl⟩) rfl rfl (ev_load1 (v := .int .i64 (x.f)) rfl rfl ((KB18.out.on HB522.out).rng.at_ (m := 1) (by rw [HC.out]; rfl)) (isAgg_no Try.underlying3 rfl)) (fun a531 hM530 => ?_)
      clear hM528
      refine s_val hM530 (.inr ⟨_, _, _, rfl, rfl, rfl⟩) rfl rfl (ev_fldw (m := 3) rfl rfl (fun w => by simp [go_sem])) (fun a533 hM532 => ?_)
      clear hM530
      refine s_val hM532 (.inr ⟨_, _, _, rfl, rfl, rfl⟩) rfl rfl (ev_load1 (v := .int .i64 (x.d)) rfl rfl ((KB18.out.on HB522.out).rng.at_ (m := 3) (by rw [HC.out]; rfl)) (isAgg_no Try.underlying3 rfl)) (fun a535 hM534 => ?_)
      clear hM532
      refine s_call hM534 (.inr ⟨_, _, _, rfl, rfl, rfl⟩) rfl rfl (f := 70) (args := #[.agg JC, .int .i64 (x.f), .int .i64 (x.d)]) (ev_call hM534 rfl rfl rfl (fun w => by simp [go_sem]) _) (by rw [HJ.out]; exact judge_by x.f x.d _ (HB.out.below HB520.out) (HL.out.below HB520.out) hn HBY) (fun e w536 hp => ?_)
      obtain ⟨rfl, hb537⟩ := hp
      refine ⟨_, rfl, fun a539 hM538 => ?_⟩
      clear hM534
      have HB540 := hide (below_then HB520.out hb537)
      have HB541 := hide (below_then HB521.out hb537)
      have HB542 := hide (below_then HB522.out hb537)
      have HB543 := hide (below_then HB523.out hb537)
      clear hb537 HB520 HB521 HB522 HB523
      refine s_val hM538 (.inl rfl) rfl rfl (ev_pick rfl rfl rfl) (fun a545 hM544 => ?_)
      clear hM538
      refine s_val hM544 (.inl rfl) rfl rfl (ev_move (.inr rfl) rfl) (fun a547 hM546 => ?_)
      clear hM544
      refine seg_nil (hK497 _ _ ?_)
      clear hK497 K497 QK497
      have hM548 := hM546.cut8 (t1 := 2) (t2 := 3) (t3 := 10) (t4 := 4) (t5 := 11) (t6 := 35) (t7 := 57) (t8 := 63) rfl rfl rfl rfl rfl rfl rfl rfl
      clear hM546
      refine wp_ret ?_
      repeat (with_reducible first | refine th_r ?_ | refine inb_r ?_ | refine js_r ?_)
      refine ret_of (t := 4) rfl hM548 rfl ?_
      exact ⟨rfl, HB540.out⟩
    case false =>
      have HNO := HR
      rw [Bool.false_and] at HNO
      have HNO := hide HNO.symm
      refine region_then fun K549 QK549 hK549 => ?_
      refine s_val hM496 (.inl rfl) rfl rfl (ev_loadm rfl rfl (KB8.out.on HB22.out).rng Try.underlying80 rfl (by rw [HJ.out]; exact info_judge)) (fun a551 hM550 => ?_)
      clear hM496
      refine s_val hM550 (.inl rfl) rfl rfl (ev_fldw (m := 3) rfl rfl (fun w => by simp [go_sem])) (fun a553 hM552 => ?_)
      clear hM550
      refine s_val hM552 (.inl rfl) rfl rfl (ev_load1 (v := .int .i64 (x.d)) rfl rfl ((KB18.out.on HB24.out).rng.at_ (m := 3) (by rw [HC.out]; rfl)) (isAgg_no Try.underlying3 rfl)) (fun a555 hM554 => ?_)
      clear hM552
      refine s_alloc (e := 3) hM554 (.inl rfl) rfl rfl (V := fun g => .slice (some ⟨g, 0, none⟩) 1 1) (ev_bsl hM554 rfl rfl (fun w => by kernel_rfl)) (fun g556 a562 w557 hM561 KB560_ hb558 hg559 => ?_)
      have KB560 := hide KB560_
      clear hM554 KB560_
      clear hg559
      have HB563 := hide (below_then HB21.out hb558)
      have HB564 := hide (below_then HB22.out hb558)
      have HB565 := hide (below_then HB24.out hb558)
      clear hb558 HB21 HB22 HB24
      have HB567 : Hid (Below w557.heap.size w557 w557) := Below.refl _ _
      have HN1 := hide (Sl.one_ KB560.out)
      refine s_call hM561 (.inl rfl) rfl rfl (f := 73) (args := #[.agg JC, .slice ((some ⟨g556, 0, none⟩)) 1 1]) (ev_call hM561 rfl rfl rfl (fun w => by simp [go_sem]) _) (by rw [HJ.out]; exact judge_known (A := A) (n := n) (c := c) (ds := [x.d]) _ (HB.out.below HB563.out) (HN1.out.below HB567.out) (by omega) HNK) (fun e w568 hp => ?_)
      obtain ⟨rfl, hb569⟩ := hp
      refine ⟨_, rfl, fun a571 hM570 => ?_⟩
      clear hM561
      have HB572 := hide (below_then HB563.out hb569)
      have HB573 := hide (below_then HB564.out hb569)
      have HB574 := hide (below_then HB565.out hb569)
      have HB575 := hide (below_then HB567.out hb569)
      clear hb569 HB563 HB564 HB565 HB567
      refine s_val hM570 (.inl rfl) rfl rfl (ev_move (.inl rfl) rfl) (fun a577 hM576 => ?_)
      clear hM570
      refine s_skip hM576 rfl rfl rfl rfl rfl rfl (fun a579 hM578 => ?_)
      clear hM576
      refine s_skip hM578 rfl rfl rfl rfl rfl rfl (fun a581 hM580 => ?_)
      clear hM578
      refine s_skip hM580 rfl rfl rfl rfl rfl rfl (fun a583 hM582 => ?_)
      clear hM580
      refine s_skip hM582 rfl rfl rfl rfl rfl rfl (fun a585 hM584 => ?_)
      clear hM582
      refine s_skip hM584 rfl rfl rfl rfl rfl rfl (fun a587 hM586 => ?_)
      clear hM584
      refine s_skip hM586 rfl rfl rfl rfl rfl rfl (fun a589 hM588 => ?_)
      clear hM586
      refine s_val hM588 (.inl rfl) rfl rfl (ev_pick rfl rfl rfl) (fun a591 hM590 => ?_)
      clear hM588
      refine s_val hM590 (.inl rfl) rfl rfl (ev_move (.inr rfl) rfl) (fun a593 hM592 => ?_)
      clear hM590
      refine seg_nil (hK549 _ _ ?_)
      clear hK549 K549 QK549
      have hM594 := hM592.cut8 (t1 := 2) (t2 := 3) (t3 := 10) (t4 := 4) (t5 := 11) (t6 := 35) (t7 := 57) (t8 := 63) rfl rfl rfl rfl rfl rfl rfl rfl
      clear hM592
      refine wp_ret ?_
      repeat (with_reducible first | refine th_r ?_ | refine inb_r ?_ | refine js_r ?_)
      refine ret_of (t := 4) rfl hM594 rfl ?_
      exact ⟨ret_bool HNO.out.symm, HB572.out⟩
  · skip
    have HR := hr.out
    rw [real_6 hk] at HR
    have HR := hide HR
    have HF := hide (may_c HM.out hk).1
    have HD1 := hide (may_c HM.out hk).2.1
    have HK := hide hk
    clear hk
    obtain ⟨CT, HCT⟩ : ∃ C : Array Value, Hid (C = ctC x v) := ⟨_, rfl⟩
    have HRCT : Hid (Rng w15 g14 11 CT) := (((KB18.out.on HB24.out)).rng).sub 11 (sub_ct HC.out HCT.out)
    refine region_then fun K595 QK595 hK595 => ?_
    refine s_val hM34 (.inl rfl) rfl rfl (ev_bin rfl rfl rfl g_int (b_eql (b := false) (by have := HK.out; simp [this]))) (fun a597 hM596 => ?_)
    clear hM34
    refine s_val hM596 (.inl rfl) rfl rfl (ev_move (.inr rfl) rfl) (fun a599 hM598 => ?_)
    clear hM596
    refine seg_nil (hK595 _ _ ?_)
    clear hK595 K595 QK595
    have hM600 := hM598.cut4 (t1 := 2) (t2 := 3) (t3 := 10) (t4 := 11) rfl rfl rfl rfl
    clear hM598
    refine wp_cond_false (hM600.ev (t := 11) rfl) ?_
    refine region_last fun K601 QK601 hK601 => ?_
    refine s_val hM600 (.inl rfl) rfl rfl (ev_bin rfl rfl rfl g_int (b_eql (b := false) (by have := HK.out; simp [this]))) (fun a603 hM602 => ?_)
    clear hM600
    refine s_val hM602 (.inl rfl) rfl rfl (ev_move (.inr rfl) rfl) (fun a605 hM604 => ?_)
    clear hM602
    refine seg_nil (hK601 _ _ ?_)
    clear hK601 K601 QK601
    have hM606 := hM604.cut4 (t1 := 2) (t2 := 3) (t3 := 10) (t4 := 11) rfl rfl rfl rfl
    clear hM604
    refine hK35 _ _ ?_
    refine wp_cond_false (hM606.ev (t := 11) rfl) ?_
    refine region_then fun K607 QK607 hK607 => ?_
    refine s_val hM606 (.inl rfl) rfl rfl (ev_bin rfl rfl rfl g_int (b_eql (b := false) (by have := HK.out; simp [this]))) (fun a609 hM608 => ?_)
    clear hM606
    refine s_val hM608 (.inl rfl) rfl rfl (ev_move (.inr rfl) rfl) (fun a611 hM610 => ?_)
    clear hM608
    refine seg_nil (hK607 _ _ ?_)
    clear hK607 K607 QK607
    have hM612 := hM610.cut5 (t1 := 2) (t2 := 3) (t3 := 10) (t4 := 11) (t5 := 35) rfl rfl rfl rfl rfl
    clear hM610
    refine wp_cond_false (hM612.ev (t := 35) rfl) ?_
    refine region_then fun K613 QK613 hK613 => ?_
    refine s_val hM612 (.inl rfl) rfl rfl (ev_bin rfl rfl rfl g_int (b_eql (b := true) (decide_eq_true HK.out))) (fun a615 hM614 => ?_)
    clear hM612
    refine s_val hM614 (.inl rfl) rfl rfl (ev_move (.inr rfl) rfl) (fun a617 hM616 => ?_)
    clear hM614
    refine seg_nil (hK613 _ _ ?_)
    clear hK613 K613 QK613
    have hM618 := hM616.cut6 (t1 := 2) (t2 := 3) (t3 := 10) (t4 := 11) (t5 := 35) (t6 := 57) rfl rfl rfl rfl rfl rfl
    clear hM616
    refine wp_cond_true (hM618.ev (t := 57) rfl) ?_
    refine region_then fun K619 QK619 hK619 => ?_
    refine s_val hM618 (.inl rfl) rfl rfl (ev_loadm rfl rfl (KB8.out.on HB22.out).rng Try.underlying80 rfl (by rw [HJ.out]; exact info_judge)) (fun a621 hM620 => ?_)
    clear hM618
    refine s_val hM620 (.inl rfl) rfl rfl (ev_fldw (m := 11) rfl rfl (fun w => by simp [go_sem])) (fun a623 hM622 => ?_)
    clear hM620
    refine s_val hM622 (.inl rfl) rfl rfl (ev_loadm rfl rfl (HRCT.out.below HB24.out) Try.underlying40 rfl (by rw [HCT.out]; exact info_cert)) (fun a625 hM624 => ?_)
    clear hM622
    refine s_call hM624 (.inl rfl) rfl rfl (f := 72) (args := #[.agg JC, .agg CT]) (ev_call hM624 rfl rfl rfl (fun w => by simp [go_sem]) _) (judge_cert x v _ HJ (hide (HB.out.below HB21.out)) (hide (HL.out.below HB21.out)) hn (hide (HS.out.below HB21.out)) HZ HF HD1 HCT HR) (fun e w626 hp => ?_)
    obtain ⟨rfl, hb627⟩ := hp
    refine ⟨_, rfl, fun a629 hM628 => ?_⟩
    clear hM624
    have HB630 := hide (below_then HB21.out hb627)
    have HB631 := hide (below_then HB22.out hb627)
    have HB632 := hide (below_then HB24.out hb627)
    clear hb627 HB21 HB22 HB24
    refine s_val hM628 (.inl rfl) rfl rfl (ev_move (.inr rfl) rfl) (fun a634 hM633 => ?_)
    clear hM628
    refine seg_nil (hK619 _ _ ?_)
    clear hK619 K619 QK619
    have hM635 := hM633.cut7 (t1 := 2) (t2 := 3) (t3 := 10) (t4 := 4) (t5 := 11) (t6 := 35) (t7 := 57) rfl rfl rfl rfl rfl rfl rfl
    clear hM633
    refine wp_ret ?_
    repeat (with_reducible first | refine th_r ?_ | refine inb_r ?_ | refine js_r ?_)
    refine ret_of (t := 4) rfl hM635 rfl ?_
    exact ⟨rfl, HB630.out⟩
  · skip
    have HR := hr.out
    rw [real_78 (.inl hk)] at HR
    have HR := hide HR
    have HK := hide hk
    clear hk
    refine region_then fun K636 QK636 hK636 => ?_
    refine s_val hM34 (.inl rfl) rfl rfl (ev_bin rfl rfl rfl g_int (b_eql (b := false) (by have := HK.out; simp [this]))) (fun a638 hM637 => ?_)
    clear hM34
    refine s_val hM637 (.inl rfl) rfl rfl (ev_move (.inr rfl) rfl) (fun a640 hM639 => ?_)
    clear hM637
    refine seg_nil (hK636 _ _ ?_)
    clear hK636 K636 QK636
    have hM641 := hM639.cut4 (t1 := 2) (t2 := 3) (t3 := 10) (t4 := 11) rfl rfl rfl rfl
    clear hM639
    refine wp_cond_false (hM641.ev (t := 11) rfl) ?_
    refine region_last fun K642 QK642 hK642 => ?_
    refine s_val hM641 (.inl rfl) rfl rfl (ev_bin rfl rfl rfl g_int (b_eql (b := false) (by have := HK.out; simp [this]))) (fun a644 hM643 => ?_)
    clear hM641
    refine s_val hM643 (.inl rfl) rfl rfl (ev_move (.inr rfl) rfl) (fun a646 hM645 => ?_)
    clear hM643
    refine seg_nil (hK642 _ _ ?_)
    clear hK642 K642 QK642
    have hM647 := hM645.cut4 (t1 := 2) (t2 := 3) (t3 := 10) (t4 := 11) rfl rfl rfl rfl
    clear hM645
    refine hK35 _ _ ?_
    refine wp_cond_false (hM647.ev (t := 11) rfl) ?_
    refine region_then fun K648 QK648 hK648 => ?_
    refine s_val hM647 (.inl rfl) rfl rfl (ev_bin rfl rfl rfl g_int (b_eql (b := false) (by have := HK.out; simp [this]))) (fun a650 hM649 => ?_)
    clear hM647
    refine s_val hM649 (.inl rfl) rfl rfl (ev_move (.inr rfl) rfl) (fun a652 hM651 => ?_)
    clear hM649
    refine seg_nil (hK648 _ _ ?_)
    clear hK648 K648 QK648
    have hM653 := hM651.cut5 (t1 := 2) (t2 := 3) (t3 := 10) (t4 := 11) (t5 := 35) rfl rfl rfl rfl rfl
    clear hM651
    refine wp_cond_false (hM653.ev (t := 35) rfl) ?_
    refine region_then fun K654 QK654 hK654 => ?_
    refine s_val hM653 (.inl rfl) rfl rfl (ev_bin rfl rfl rfl g_int (b_eql (b := false) (by have := HK.out; simp [this]))) (fun a656 hM655 => ?_)
    clear hM653
    refine s_val hM655 (.inl rfl) rfl rfl (ev_move (.inr rfl) rfl) (fun a658 hM657 => ?_)
    clear hM655
    refine seg_nil (hK654 _ _ ?_)
    clear hK654 K654 QK654
    have hM659 := hM657.cut6 (t1 := 2) (t2 := 3) (t3 := 10) (t4 := 11) (t5 := 35) (t6 := 57) rfl rfl rfl rfl rfl rfl
    clear hM657
    refine wp_cond_false (hM659.ev (t := 57) rfl) ?_
    refine region_then fun K660 QK660 hK660 => ?_
    refine s_val hM659 (.inl rfl) rfl rfl (ev_bin rfl rfl rfl g_int (b_eql (b := false) (by have := HK.out; simp [this]))) (fun a662 hM661 => ?_)
    clear hM659
    refine s_val hM661 (.inl rfl) rfl rfl (ev_move (.inr rfl) rfl) (fun a664 hM663 => ?_)
    clear hM661
    refine seg_nil (hK660 _ _ ?_)
    clear hK660 K660 QK660
    have hM665 := hM663.cut7 (t1 := 2) (t2 := 3) (t3 := 10) (t4 := 11) (t5 := 35) (t6 := 57) (t7 := 63) rfl rfl rfl rfl rfl rfl rfl
    clear hM663
    refine wp_cond_false (hM665.ev (t := 63) rfl) ?_
    refine region_then fun K666 QK666 hK666 => ?_
    refine s_val hM665 (.inl rfl) rfl rfl (ev_bin rfl rfl rfl g_int (b_eql (b := false) (by have := HK.out; simp [this]))) (fun a668 hM667 => ?_)
    clear hM665
    refine s_val hM667 (.inl rfl) rfl rfl (ev_move (.inr rfl) rfl) (fun a670 hM669 => ?_)
    clear hM667
    refine seg_nil (hK666 _ _ ?_)
    clear hK666 K666 QK666
    have hM671 := hM669.cut8 (t1 := 2) (t2 := 3) (t3 := 10) (t4 := 11) (t5 := 35) (t6 := 57) (t7 := 63) (t8 := 78) rfl rfl rfl rfl rfl rfl rfl rfl
    clear hM669
    refine wp_cond_false (hM671.ev (t := 78) rfl) ?_
    refine wp_skip ?_
    refine inb_n ?_
    refine hK28 _ _ ?_
    refine region_then fun K672 QK672 hK672 => ?_
    refine s_val hM671 (.inl rfl) rfl rfl (ev_loadm rfl rfl (KB8.out.on HB22.out).rng Try.underlying80 rfl (by rw [HJ.out]; exact info_judge)) (fun a674 hM673 => ?_)
    clear hM671
    refine s_val hM673 (.inl rfl) rfl rfl (ev_fldw (m := 17) rfl rfl (fun w => by simp [go_sem])) (fun a676 hM675 => ?_)
    clear hM673
    refine s_val hM675 (.inl rfl) rfl rfl (ev_load1 (v := .slice (v.ds.A) (v.ds.n) (v.ds.c)) rfl rfl ((KB18.out.on HB24.out).rng.at_ (m := 17) (by rw [HC.out]; rfl)) (isAgg_no Try.underlying22 rfl)) (fun a678 hM677 => ?_)
    clear hM675
    refine s_call hM677 (.inl rfl) rfl rfl (f := 73) (args := #[.agg JC, .slice (v.ds.A) (v.ds.n) (v.ds.c)]) (ev_call hM677 rfl rfl rfl (fun w => by simp [go_sem]) _) (by rw [HJ.out]; exact judge_known (A := A) (n := n) (c := c) _ (HB.out.below HB21.out) ((HS.out.below HB21.out)).ds HZ.out.ds HR) (fun e w679 hp => ?_)
    obtain ⟨rfl, hb680⟩ := hp
    refine ⟨_, rfl, fun a682 hM681 => ?_⟩
    clear hM677
    have HB683 := hide (below_then HB21.out hb680)
    have HB684 := hide (below_then HB22.out hb680)
    have HB685 := hide (below_then HB24.out hb680)
    clear hb680 HB21 HB22 HB24
    refine s_val hM681 (.inl rfl) rfl rfl (ev_move (.inr rfl) rfl) (fun a687 hM686 => ?_)
    clear hM681
    refine seg_nil (hK672 _ _ ?_)
    clear hK672 K672 QK672
    have hM688 := hM686.cut9 (t1 := 2) (t2 := 3) (t3 := 10) (t4 := 4) (t5 := 11) (t6 := 35) (t7 := 57) (t8 := 63) (t9 := 78) rfl rfl rfl rfl rfl rfl rfl rfl rfl
    clear hM686
    refine wp_ret ?_
    repeat (with_reducible first | refine th_r ?_ | refine inb_r ?_ | refine js_r ?_)
    refine ret_of (t := 4) rfl hM688 rfl ?_
    exact ⟨rfl, HB683.out⟩
  · skip
    have HR := hr.out
    rw [real_78 (.inr hk)] at HR
    have HR := hide HR
    have HK := hide hk
    clear hk
    refine region_then fun K689 QK689 hK689 => ?_
    refine s_val hM34 (.inl rfl) rfl rfl (ev_bin rfl rfl rfl g_int (b_eql (b := false) (by have := HK.out; simp [this]))) (fun a691 hM690 => ?_)
    clear hM34
    refine s_val hM690 (.inl rfl) rfl rfl (ev_move (.inr rfl) rfl) (fun a693 hM692 => ?_)
    clear hM690
    refine seg_nil (hK689 _ _ ?_)
    clear hK689 K689 QK689
    have hM694 := hM692.cut4 (t1 := 2) (t2 := 3) (t3 := 10) (t4 := 11) rfl rfl rfl rfl
    clear hM692
    refine wp_cond_false (hM694.ev (t := 11) rfl) ?_
    refine region_last fun K695 QK695 hK695 => ?_
    refine s_val hM694 (.inl rfl) rfl rfl (ev_bin rfl rfl rfl g_int (b_eql (b := false) (by have := HK.out; simp [this]))) (fun a697 hM696 => ?_)
    clear hM694
    refine s_val hM696 (.inl rfl) rfl rfl (ev_move (.inr rfl) rfl) (fun a699 hM698 => ?_)
    clear hM696
    refine seg_nil (hK695 _ _ ?_)
    clear hK695 K695 QK695
    have hM700 := hM698.cut4 (t1 := 2) (t2 := 3) (t3 := 10) (t4 := 11) rfl rfl rfl rfl
    clear hM698
    refine hK35 _ _ ?_
    refine wp_cond_false (hM700.ev (t := 11) rfl) ?_
    refine region_then fun K701 QK701 hK701 => ?_
    refine s_val hM700 (.inl rfl) rfl rfl (ev_bin rfl rfl rfl g_int (b_eql (b := false) (by have := HK.out; simp [this]))) (fun a703 hM702 => ?_)
    clear hM700
    refine s_val hM702 (.inl rfl) rfl rfl (ev_move (.inr rfl) rfl) (fun a705 hM704 => ?_)
    clear hM702
    refine seg_nil (hK701 _ _ ?_)
    clear hK701 K701 QK701
    have hM706 := hM704.cut5 (t1 := 2) (t2 := 3) (t3 := 10) (t4 := 11) (t5 := 35) rfl rfl rfl rfl rfl
    clear hM704
    refine wp_cond_false (hM706.ev (t := 35) rfl) ?_
    refine region_then fun K707 QK707 hK707 => ?_
    refine s_val hM706 (.inl rfl) rfl rfl (ev_bin rfl rfl rfl g_int (b_eql (b := false) (by have := HK.out; simp [this]))) (fun a709 hM708 => ?_)
    clear hM706
    refine s_val hM708 (.inl rfl) rfl rfl (ev_move (.inr rfl) rfl) (fun a711 hM710 => ?_)
    clear hM708
    refine seg_nil (hK707 _ _ ?_)
    clear hK707 K707 QK707
    have hM712 := hM710.cut6 (t1 := 2) (t2 := 3) (t3 := 10) (t4 := 11) (t5 := 35) (t6 := 57) rfl rfl rfl rfl rfl rfl
    clear hM710
    refine wp_cond_false (hM712.ev (t := 57) rfl) ?_
    refine region_then fun K713 QK713 hK713 => ?_
    refine s_val hM712 (.inl rfl) rfl rfl (ev_bin rfl rfl rfl g_int (b_eql (b := false) (by have := HK.out; simp [this]))) (fun a715 hM714 => ?_)
    clear hM712
    refine s_val hM714 (.inl rfl) rfl rfl (ev_move (.inr rfl) rfl) (fun a717 hM716 => ?_)
    clear hM714
    refine seg_nil (hK713 _ _ ?_)
    clear hK713 K713 QK713
    have hM718 := hM716.cut7 (t1 := 2) (t2 := 3) (t3 := 10) (t4 := 11) (t5 := 35) (t6 := 57) (t7 := 63) rfl rfl rfl rfl rfl rfl rfl
    clear hM716
    refine wp_cond_false (hM718.ev (t := 63) rfl) ?_
    refine region_then fun K719 QK719 hK719 => ?_
    refine s_val hM718 (.inl rfl) rfl rfl (ev_bin rfl rfl rfl g_int (b_eql (b := false) (by have := HK.out; simp [this]))) (fun a721 hM720 => ?_)
    clear hM718
    refine s_val hM720 (.inl rfl) rfl rfl (ev_move (.inr rfl) rfl) (fun a723 hM722 => ?_)
    clear hM720
    refine seg_nil (hK719 _ _ ?_)
    clear hK719 K719 QK719
    have hM724 := hM722.cut8 (t1 := 2) (t2 := 3) (t3 := 10) (t4 := 11) (t5 := 35) (t6 := 57) (t7 := 63) (t8 := 78) rfl rfl rfl rfl rfl rfl rfl rfl
    clear hM722
    refine wp_cond_false (hM724.ev (t := 78) rfl) ?_
    refine wp_skip ?_
    refine inb_n ?_
    refine hK28 _ _ ?_
    refine region_then fun K725 QK725 hK725 => ?_
    refine s_val hM724 (.inl rfl) rfl rfl (ev_loadm rfl rfl (KB8.out.on HB22.out).rng Try.underlying80 rfl (by rw [HJ.out]; exact info_judge)) (fun a727 hM726 => ?_)
    clear hM724
    refine s_val hM726 (.inl rfl) rfl rfl (ev_fldw (m := 17) rfl rfl (fun w => by simp [go_sem])) (fun a729 hM728 => ?_)
    clear hM726
    refine s_val hM728 (.inl rfl) rfl rfl (ev_load1 (v := .slice (v.ds.A) (v.ds.n) (v.ds.c)) rfl rfl ((KB18.out.on HB24.out).rng.at_ (m := 17) (by rw [HC.out]; rfl)) (isAgg_no Try.underlying22 rfl)) (fun a731 hM730 => ?_)
    clear hM728
    refine s_call hM730 (.inl rfl) rfl rfl (f := 73) (args := #[.agg JC, .slice (v.ds.A) (v.ds.n) (v.ds.c)]) (ev_call hM730 rfl rfl rfl (fun w => by simp [go_sem]) _) (by rw [HJ.out]; exact judge_known (A := A) (n := n) (c := c) _ (HB.out.below HB21.out) ((HS.out.below HB21.out)).ds HZ.out.ds HR) (fun e w732 hp => ?_)
    obtain ⟨rfl, hb733⟩ := hp
    refine ⟨_, rfl, fun a735 hM734 => ?_⟩
    clear hM730
    have HB736 := hide (below_then HB21.out hb733)
    have HB737 := hide (below_then HB22.out hb733)
    have HB738 := hide (below_then HB24.out hb733)
    clear hb733 HB21 HB22 HB24
    refine s_val hM734 (.inl rfl) rfl rfl (ev_move (.inr rfl) rfl) (fun a740 hM739 => ?_)
    clear hM734
    refine seg_nil (hK725 _ _ ?_)
    clear hK725 K725 QK725
    have hM741 := hM739.cut9 (t1 := 2) (t2 := 3) (t3 := 10) (t4 := 4) (t5 := 11) (t6 := 35) (t7 := 57) (t8 := 63) (t9 := 78) rfl rfl rfl rfl rfl rfl rfl rfl rfl
    clear hM739
    refine wp_ret ?_
    repeat (with_reducible first | refine th_r ?_ | refine inb_r ?_ | refine js_r ?_)
    refine ret_of (t := 4) rfl hM741 rfl ?_
    exact ⟨rfl, HB736.out⟩

set_option maxRecDepth 100000 in
set_option maxHeartbeats 4000000 in
theorem real_Check {G : Nat → Prop} {g : Nat} {L : List (List UInt8)} {sg : Int × Int → Bool} {A : Option Addr} {n c : Nat} {ls : List Int} (N : Int) (x : MsD) (v : MsV) (w : World) (HB : Hid (BkI G w g L sg)) (HL : Hid (Sl w 1 A n (ints ls))) (hn : n ≤ 9223372036854775807) (HS : Hid (MsS w x v)) (HZ : Hid (MsZ x v)) {C : Array Value} (HC : Hid (C = msC x v)) {r : Int} (hr : Hid (chkE L sg ls N x = r)) :
    Calls Try.prog 23 #[.pointer (some ⟨g, 0, none⟩), .int .i64 N, .slice A n c, .agg C] w fun e w' => e = .returned (.int .i64 r) ∧ Below w.heap.size w w' := by

  go_enter Try.func23, Try.ntmps23
  refine act_off 25 [(0, .pointer (some ⟨g, 0, none⟩)), (1, .int .i64 N), (2, .slice A n c), (3, .agg C)] (Frm.start rfl (by intro p hp; simp only [List.mem_cons, List.not_mem_nil, or_false] at hp; rcases hp with rfl | rfl | rfl | rfl <;> rfl)) (fun a0 hM => ?_)
  have HB2 : Hid (Below w.heap.size w w) := Below.refl _ _
  refine region_then fun K3 QK3 hK3 => ?_
  refine s_alloc (e := 42) hM (.inl rfl) rfl rfl (V := fun g => .pointer (some ⟨g, 0, none⟩)) (ev_box hM rfl rfl) (fun g4 a10 w5 hM9 KB8_ hb6 hg7 => ?_)
  have KB8 := hide KB8_
  clear hM KB8_
  clear hg7
  have HB11 := hide (below_then HB2.out hb6)
  clear hb6 HB2
  have HB13 : Hid (Below w5.heap.size w5 w5) := Below.refl _ _
  refine s_val hM9 (.inl rfl) rfl rfl (ev_move (.inr rfl) rfl) (fun a15 hM14 => ?_)
  clear hM9
  refine seg_nil (hK3 _ _ ?_)
  clear hK3 K3 QK3
  have hM16 := hM14.cut4 (t1 := 0) (t2 := 1) (t3 := 2) (t4 := 7) rfl rfl rfl rfl
  clear hM14
  refine wp_seq_k fun K17 hK17 => ?_
  refine wp_block ?_
  obtain ⟨q, HM⟩ : ∃ q, Hid (mayM N x = q) := ⟨_, rfl⟩
  cases q
  case false =>
    have HR := hr.out
    unfold chkE at HR
    rw [HM.out] at HR
    simp only [Bool.false_eq_true, if_false] at HR
    refine region_then fun K18 QK18 hK18 => ?_
    refine s_val hM16 (.inl rfl) rfl rfl (ev_move (.inl rfl) rfl) (fun a20 hM19 => ?_)
    clear hM16
    refine s_val hM19 (.inl rfl) rfl rfl (ev_ptrnil rfl rfl (u_ptr (by kernel_rfl)) g_ptr) (fun a22 hM21 => ?_)
    clear hM19
    refine s_val hM21 (.inl rfl) rfl rfl (ev_move (.inl rfl) rfl) (fun a24 hM23 => ?_)
    clear hM21
    refine s_val hM23 (.inr ⟨_, _, _, rfl, rfl, rfl⟩) rfl rfl (ev_loadm rfl rfl (KB8.out.on HB13.out).rng Try.underlying42 rfl (by rw [HC.out]; exact Try.infoMsg)) (fun a26 hM25 => ?_)
    clear hM23
    refine s_val hM25 (.inr ⟨_, _, _, rfl, rfl, rfl⟩) rfl rfl (ev_move (.inl rfl) rfl) (fun a28 hM27 => ?_)
    clear hM25
    refine s_call hM27 (.inr ⟨_, _, _, rfl, rfl, rfl⟩) rfl rfl (f := 43) (args := #[.agg C, .int .i64 N]) (ev_call hM27 rfl rfl rfl (fun w => by simp [go_sem]) _) (message_May N x v _ (hide (HS.out.below HB11.out)) HZ HC HM) (fun e w29 hp => ?_)
    obtain ⟨rfl, hb30⟩ := hp
    refine ⟨_, rfl, fun a32 hM31 => ?_⟩
    clear hM27
    have HB33 := hide (below_then HB11.out hb30)
    have HB34 := hide (below_then HB13.out hb30)
    clear hb30 HB11 HB13
    refine s_val hM31 (.inr ⟨_, _, _, rfl, rfl, rfl⟩) rfl rfl (ev_not rfl rfl rfl) (fun a36 hM35 => ?_)
    clear hM31
    refine s_val hM35 (.inl rfl) rfl rfl (ev_pick rfl rfl rfl) (fun a38 hM37 => ?_)
    clear hM35
    refine s_val hM37 (.inl rfl) rfl rfl (ev_move (.inr rfl) rfl) (fun a40 hM39 => ?_)
    clear hM37
    refine seg_nil (hK18 _ _ ?_)
    clear hK18 K18 QK18
    have hM41 := hM39.cut5 (t1 := 0) (t2 := 1) (t3 := 2) (t4 := 7) (t5 := 9) rfl rfl rfl rfl rfl
    clear hM39
    refine wp_cond_true (hM41.ev (t := 9) rfl) ?_
    refine region_then fun K42 QK42 hK42 => ?_
    refine s_val hM41 (.inl rfl) rfl rfl (ev_move (.inr rfl) rfl) (fun a44 hM43 => ?_)
    clear hM41
    refine seg_nil (hK42 _ _ ?_)
    clear hK42 K42 QK42
    have hM45 := hM43.cut1 (t1 := 8) rfl
    clear hM43
    refine wp_ret ?_
    repeat (with_reducible first | refine th_r ?_ | refine inb_r ?_ | refine js_r ?_)
    refine ret_of (t := 8) rfl hM45 rfl ?_
    exact ⟨ret_int HR, HB33.out⟩
  case true =>
    refine region_then fun K46 QK46 hK46 => ?_
    refine s_val hM16 (.inl rfl) rfl rfl (ev_move (.inl rfl) rfl) (fun a48 hM47 => ?_)
    clear hM16
    refine s_val hM47 (.inl rfl) rfl rfl (ev_ptrnil rfl rfl (u_ptr (by kernel_rfl)) g_ptr) (fun a50 hM49 => ?_)
    clear hM47
    refine s_val hM49 (.inl rfl) rfl rfl (ev_move (.inl rfl) rfl) (fun a52 hM51 => ?_)
    clear hM49
    refine s_val hM51 (.inr ⟨_, _, _, rfl, rfl, rfl⟩) rfl rfl (ev_loadm rfl rfl (KB8.out.on HB13.out).rng Try.underlying42 rfl (by rw [HC.out]; exact Try.infoMsg)) (fun a54 hM53 => ?_)
    clear hM51
    refine s_val hM53 (.inr ⟨_, _, _, rfl, rfl, rfl⟩) rfl rfl (ev_move (.inl rfl) rfl) (fun a56 hM55 => ?_)
    clear hM53
    refine s_call hM55 (.inr ⟨_, _, _, rfl, rfl, rfl⟩) rfl rfl (f := 43) (args := #[.agg C, .int .i64 N]) (ev_call hM55 rfl rfl rfl (fun w => by simp [go_sem]) _) (message_May N x v _ (hide (HS.out.below HB11.out)) HZ HC HM) (fun e w57 hp => ?_)
    obtain ⟨rfl, hb58⟩ := hp
    refine ⟨_, rfl, fun a60 hM59 => ?_⟩
    clear hM55
    have HB61 := hide (below_then HB11.out hb58)
    have HB62 := hide (below_then HB13.out hb58)
    clear hb58 HB11 HB13
    refine s_val hM59 (.inr ⟨_, _, _, rfl, rfl, rfl⟩) rfl rfl (ev_not rfl rfl rfl) (fun a64 hM63 => ?_)
    clear hM59
    refine s_val hM63 (.inl rfl) rfl rfl (ev_pick rfl rfl rfl) (fun a66 hM65 => ?_)
    clear hM63
    refine s_val hM65 (.inl rfl) rfl rfl (ev_move (.inr rfl) rfl) (fun a68 hM67 => ?_)
    clear hM65
    refine seg_nil (hK46 _ _ ?_)
    clear hK46 K46 QK46
    have hM69 := hM67.cut5 (t1 := 0) (t2 := 1) (t3 := 2) (t4 := 7) (t5 := 9) rfl rfl rfl rfl rfl
    clear hM67
    refine wp_cond_false (hM69.ev (t := 9) rfl) ?_
    obtain ⟨JC, HJ⟩ : ∃ JC, Hid (JC = jdC g A n c) := ⟨_, rfl⟩
    obtain ⟨q, HQ⟩ : ∃ q, Hid (realB L sg ls x = q) := ⟨_, rfl⟩
    have HR := hr.out
    unfold chkE at HR
    rw [HM.out, HQ.out] at HR
    cases q
    case false =>
      simp only [Bool.false_eq_true, if_false, if_true] at HR
      refine region_then fun K70 QK70 hK70 => ?_
      refine s_val hM69 (.inl rfl) rfl rfl (ev_move (.inl rfl) rfl) (fun a72 hM71 => ?_)
      clear hM69
      refine s_val hM71 (.inl rfl) rfl rfl (ev_move (.inl rfl) rfl) (fun a74 hM73 => ?_)
      clear hM71
      refine s_val hM73 (.inl rfl) rfl rfl (ev_build2 (v := .agg JC) rfl rfl rfl (fun w => by rw [HJ.out]; kernel_rfl)) (fun a76 hM75 => ?_)
      clear hM73
      refine s_val hM75 (.inl rfl) rfl rfl (ev_loadm rfl rfl (KB8.out.on HB62.out).rng Try.underlying42 rfl (by rw [HC.out]; exact Try.infoMsg)) (fun a78 hM77 => ?_)
      clear hM75
      refine s_call hM77 (.inl rfl) rfl rfl (f := 44) (args := #[.agg JC, .agg C]) (ev_call hM77 rfl rfl rfl (fun w => by simp [go_sem]) _) (judge_real N x v _ HJ (hide (HB.out.below HB61.out)) (hide (HL.out.below HB61.out)) hn (hide (HS.out.below HB61.out)) HZ HC HM HQ) (fun e w79 hp => ?_)
      obtain ⟨rfl, hb80⟩ := hp
      refine ⟨_, rfl, fun a82 hM81 => ?_⟩
      clear hM77
      have HB83 := hide (below_then HB61.out hb80)
      have HB84 := hide (below_then HB62.out hb80)
      clear hb80 HB61 HB62
      refine s_val hM81 (.inl rfl) rfl rfl (ev_not rfl rfl rfl) (fun a86 hM85 => ?_)
      clear hM81
      refine s_val hM85 (.inl rfl) rfl rfl (ev_move (.inr rfl) rfl) (fun a88 hM87 => ?_)
      clear hM85
      refine seg_nil (hK70 _ _ ?_)
      clear hK70 K70 QK70
      have hM89 := hM87.cut1 (t1 := 18) rfl
      clear hM87
      refine wp_cond_true (hM89.ev (t := 18) rfl) ?_
      refine region_then fun K90 QK90 hK90 => ?_
      refine s_val hM89 (.inl rfl) rfl rfl (ev_move (.inr rfl) rfl) (fun a92 hM91 => ?_)
      clear hM89
      refine seg_nil (hK90 _ _ ?_)
      clear hK90 K90 QK90
      have hM93 := hM91.cut1 (t1 := 8) rfl
      clear hM91
      refine wp_ret ?_
      repeat (with_reducible first | refine th_r ?_ | refine inb_r ?_ | refine js_r ?_)
      refine ret_of (t := 8) rfl hM93 rfl ?_
      exact ⟨ret_int HR, HB83.out⟩
    case true =>
      simp only [Bool.false_eq_true, if_false, if_true] at HR
      refine region_then fun K94 QK94 hK94 => ?_
      refine s_val hM69 (.inl rfl) rfl rfl (ev_move (.inl rfl) rfl) (fun a96 hM95 => ?_)
      clear hM69
      refine s_val hM95 (.inl rfl) rfl rfl (ev_move (.inl rfl) rfl) (fun a98 hM97 => ?_)
      clear hM95
      refine s_val hM97 (.inl rfl) rfl rfl (ev_build2 (v := .agg JC) rfl rfl rfl (fun w => by rw [HJ.out]; kernel_rfl)) (fun a100 hM99 => ?_)
      clear hM97
      refine s_val hM99 (.inl rfl) rfl rfl (ev_loadm rfl rfl (KB8.out.on HB62.out).rng Try.underlying42 rfl (by rw [HC.out]; exact Try.infoMsg)) (fun a102 hM101 => ?_)
      clear hM99
      refine s_call hM101 (.inl rfl) rfl rfl (f := 44) (args := #[.agg JC, .agg C]) (ev_call hM101 rfl rfl rfl (fun w => by simp [go_sem]) _) (judge_real N x v _ HJ (hide (HB.out.below HB61.out)) (hide (HL.out.below HB61.out)) hn (hide (HS.out.below HB61.out)) HZ HC HM HQ) (fun e w103 hp => ?_)
      obtain ⟨rfl, hb104⟩ := hp
      refine ⟨_, rfl, fun a106 hM105 => ?_⟩
      clear hM101
      have HB107 := hide (below_then HB61.out hb104)
      have HB108 := hide (below_then HB62.out hb104)
      clear hb104 HB61 HB62
      refine s_val hM105 (.inl rfl) rfl rfl (ev_not rfl rfl rfl) (fun a110 hM109 => ?_)
      clear hM105
      refine s_val hM109 (.inl rfl) rfl rfl (ev_move (.inr rfl) rfl) (fun a112 hM111 => ?_)
      clear hM109
      refine seg_nil (hK94 _ _ ?_)
      clear hK94 K94 QK94
      have hM113 := hM111.cut1 (t1 := 18) rfl
      clear hM111
      refine wp_cond_false (hM113.ev (t := 18) rfl) ?_
      refine wp_skip ?_
      refine inb_n ?_
      refine hK17 _ _ ?_
      refine region_then fun K114 QK114 hK114 => ?_
      refine s_val hM113 (.inl rfl) rfl rfl (ev_move (.inr rfl) rfl) (fun a116 hM115 => ?_)
      clear hM113
      refine seg_nil (hK114 _ _ ?_)
      clear hK114 K114 QK114
      have hM117 := hM115.cut1 (t1 := 8) rfl
      clear hM115
      refine wp_ret ?_
      repeat (with_reducible first | refine th_r ?_ | refine inb_r ?_ | refine js_r ?_)
      refine ret_of (t := 8) rfl hM117 rfl ?_
      exact ⟨ret_int HR, HB107.out⟩

end Go.Proofs.Ytebaojcfmkobjaa
